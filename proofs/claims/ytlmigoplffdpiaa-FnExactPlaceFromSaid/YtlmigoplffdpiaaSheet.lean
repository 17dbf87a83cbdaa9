/- Contracts: SheetFrom of the program and of the reference. -/
import Derived.Test.YtlmigoplffdpiaaNamed
import Derived.Deep.QuietTactic
import Derived.BigQuiet
namespace Go.Proofs.Ytlmigoplffdpiaa
open Go.RowKit

theorem results_cell1 {fn : Func} {p : Tmp} {ty : TypeId} (h : fn.results = #[.cell p ty]) (tmps : Array Value) (P : Program) (w : World) :
    (results fn tmps).run P w = ((asAddr (tmps.getD p undef)).run P w).andThen fun a w₁ => (loadVar ty a).run P w₁ := by
  simp only [results, h]
  simp [Sem.run_bind, Result.andThen]

theorem find_yes {S : ByteArray} {c r : Nat} (h : IsName S c r) (w : World) : Calls Try.prog 22 #[.string S] w fun e w' => e = .returned (.tuple #[.int .i64 c, .int .i64 r, .bool true]) ∧ Below w.heap.size w w' := by
  refine (find_any S w).mono ?_
  rintro e w' ⟨⟨c', r', h', he⟩ | ⟨hn, -⟩, hb⟩
  · have := name_inj h.1 h.2.1 h'.1 h'.2.1 (h.2.2.symm.trans h'.2.2)
    rw [this.1, this.2]
    exact ⟨he, hb⟩
  · exact absurd h (hn c r)
theorem find_no {S : ByteArray} (h : NoName S) (w : World) : Calls Try.prog 22 #[.string S] w fun e w' => e = .returned (.tuple #[.int .i64 0, .int .i64 0, .bool false]) ∧ Below w.heap.size w w' := by
  refine (find_any S w).mono ?_
  rintro e w' ⟨⟨c', r', h', he⟩ | ⟨-, he⟩, hb⟩
  · exact absurd h' (h c' r')
  · exact ⟨he, hb⟩
theorem named_yes {S : ByteArray} {c r : Nat} (h : IsName S c r) (w : World) : Calls Try.prog 23 #[.string S] w fun e w' => e = .returned (.tuple #[.agg #[.int .i64 r, .int .i64 c], .bool true]) ∧ Below w.heap.size w w' := by
  refine (named_any S w).mono ?_
  rintro e w' ⟨⟨c', r', h', he⟩ | ⟨hn, -⟩, hb⟩
  · have := name_inj h.1 h.2.1 h'.1 h'.2.1 (h.2.2.symm.trans h'.2.2)
    rw [this.1, this.2]
    exact ⟨he, hb⟩
  · exact absurd h (hn c r)
theorem named_no {S : ByteArray} (h : NoName S) (w : World) : Calls Try.prog 23 #[.string S] w fun e w' => e = .returned (.tuple #[.agg #[.int .i64 0, .int .i64 0], .bool false]) ∧ Below w.heap.size w w' := by
  refine (named_any S w).mono ?_
  rintro e w' ⟨⟨c', r', h', he⟩ | ⟨-, he⟩, hb⟩
  · exact absurd h' (h c' r')
  · exact ⟨he, hb⟩
theorem name_or (S : ByteArray) : (∃ c r, IsName S c r) ∨ NoName S := by
  by_cases h : ∃ c r, IsName S c r
  · exact .inl h
  · exact .inr fun c r hn => h ⟨c, r, hn⟩

theorem corner_any (c r : Nat) (w : World) (hc : c < 26) (hr : r < 26) : Calls Try.prog 24 #[.agg #[.int .i64 r, .int .i64 c]] w fun e w' => e = .returned (.agg #[.int .i64 ((c : Int) * 4), .int .i64 ((r : Int) * 4)]) ∧ Below w.heap.size w w' := by
  have t1 : IntKind.i64.wrap ((c : Int) * 4) = (c : Int) * 4 := IntWalk.i64_in _ (by omega)
  have t2 : IntKind.i64.wrap ((r : Int) * 4) = (r : Int) * 4 := IntWalk.i64_in _ (by omega)
  go_enter Try.func24, Try.ntmps24
  go_wp2
  (try simp only [Exit.inBlock, Exit.then])
  refine bodyPost_ret (v := .agg #[.int .i64 ((c : Int) * 4), .int .i64 ((r : Int) * 4)]) ?_ rfl ⟨rfl, ?_⟩
  · rw [results_cell1 rfl]
    go_simp
  · have b1 := Below.alloc (Below.refl w.heap.size w) (Nat.le_refl _) (.cells #[.int .i64 r, .int .i64 c] 37)
    exact Below.alloc b1 b1.size _

/-- What SheetFrom gives. -/
def fromV (S : ByteArray) (a b : Int) (o : Bool) : Prop := (∃ c r : Nat, IsName S c r ∧ a = (c : Int) * 4 ∧ b = (r : Int) * 4 ∧ o = true) ∨ (NoName S ∧ a = 0 ∧ b = 0 ∧ o = false)
theorem sfrom_any (S : ByteArray) (a b : Int) (o : Bool) (w : World) (h : fromV S a b o) :
    Calls Try.prog 11 #[.string S] w fun e w' => e = .returned (.tuple #[.int .i64 a, .int .i64 b, .bool o]) ∧ Below w.heap.size w w' := by
  rcases h with ⟨c, r, hn, rfl, rfl, rfl⟩ | ⟨hn, rfl, rfl, rfl⟩
  · have HF := Lib.hid (find_yes hn w)
    have hc := hn.1
    have hr := hn.2.1
    clear hn
    go_enter Try.func11, Try.ntmps11
    go_wp2_with fail
    refine HF.out.mono ?_
    rintro e w' ⟨rfl, hb⟩
    go_wp2
    go_ret3
    exact ⟨rfl, hb⟩
  · have HF := Lib.hid (find_no hn w)
    clear hn
    go_enter Try.func11, Try.ntmps11
    go_wp2_with fail
    refine HF.out.mono ?_
    rintro e w' ⟨rfl, hb⟩
    go_wp2
    go_ret3
    exact ⟨rfl, hb⟩
theorem ifrom_any (S : ByteArray) (a b : Int) (o : Bool) (w : World) (h : fromV S a b o) :
    Calls Try.prog 12 #[.string S] w fun e w' => e = .returned (.tuple #[.int .i64 a, .int .i64 b, .bool o]) ∧ Below w.heap.size w w' := by
  rcases h with ⟨c, r, hn, rfl, rfl, rfl⟩ | ⟨hn, rfl, rfl, rfl⟩
  · have HF := Lib.hid (named_yes hn w)
    have hc := hn.1
    have hr := hn.2.1
    have HC := Lib.hid (fun wx => corner_any c r wx hc hr)
    clear hn
    go_enter Try.func12, Try.ntmps12
    go_wp2_with fail
    refine HF.out.mono ?_
    rintro e w1 ⟨rfl, hb⟩
    have HB := Lib.hid hb
    clear hb
    go_wp2_with fail
    refine (HC.out _).mono ?_
    rintro e w2 ⟨rfl, hb⟩
    have HB2 := Lib.hid (HB.out.trans ((Below.alloc (Below.refl w1.heap.size w1) (Nat.le_refl _) _).trans (hb.mono (by simp)) |>.mono HB.out.size))
    clear hb
    go_wp2
    go_quiet (fail)
    go_wp2
    go_ret3
    exact ⟨rfl, below_drewN (HB2.out.trans ((Below.alloc (Below.refl w2.heap.size w2) (Nat.le_refl _) _).mono HB2.out.size)) _⟩
  · have HF := Lib.hid (named_no hn w)
    clear hn
    go_enter Try.func12, Try.ntmps12
    go_wp2_with fail
    refine HF.out.mono ?_
    rintro e w1 ⟨rfl, hb⟩
    have HB := Lib.hid hb
    clear hb
    go_wp2
    go_ret3
    exact ⟨rfl, HB.out.trans ((Below.alloc (Below.refl w1.heap.size w1) (Nat.le_refl _) _).mono HB.out.size)⟩

end Go.Proofs.Ytlmigoplffdpiaa
