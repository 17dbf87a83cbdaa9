/- Contract: moves of the program: a map from letters to functions. -/
import Derived.Test.YtlmigoplffdpiaaPlace
import Derived.Maps.OwnSet
import Derived.Deep.Cut
namespace Go.Proofs.Ytlmigoplffdpiaa
open Go.RowKit
open Go.Maps (Keyed IsMap)
open Go.ChangeMaps Go.MapKept Go.WideShapes
set_option linter.unusedVariables false

/-- How an element reads: a function without anything captured, by its number; nil. -/
def fnElem (v : Value) : Option (DataW Unit × List MemPlace) :=
  match v with
  | .func (.func n) f c => if f.size = 0 ∧ c.size = 0 then some (.lit (.int .i64 n), []) else none
  | .nilFunc => some (.agg [], [])
  | _ => none
theorem fnElem_fn (n : Nat) : fnElem (.func (.func n) #[] #[]) = some (.lit (.int .i64 n), []) := by simp [fnElem]
theorem fnElem_nil : fnElem .nilFunc = some (.agg [], []) := rfl
theorem fnElem_inv {v : Value} {z : DataW Unit × List MemPlace} (h : fnElem v = some z) : (∃ n : Nat, v = .func (.func n) #[] #[] ∧ z.1 = .lit (.int .i64 n)) ∨ (v = .nilFunc ∧ z.1 = .agg []) := by
  unfold fnElem at h
  split at h
  · rename_i n f c
    split at h
    · rename_i hs
      obtain ⟨h1, h2⟩ := hs
      have e1 : f = #[] := Array.eq_empty_of_size_eq_zero h1
      have e2 : c = #[] := Array.eq_empty_of_size_eq_zero h2
      subst e1 e2
      cases h
      exact .inl ⟨n, rfl, rfl⟩
    · cases h
  · cases h
    exact .inr ⟨rfl, rfl⟩
  · cases h

theorem byteKeyed : Keyed Try.prog 5 := Maps.int_keyed Try.underlying5

def MT : TypeId := 48
def putF (D : DataW Unit) (x : Int) (n : Nat) : DataW Unit := D.put (.int .u8 x) (.lit (.int .i64 n))
def mapD : DataW Unit := putF (putF (putF (putF (.map []) 97 41) 98 42) 99 43) 100 44
theorem ins_step {w : World} {b n : Nat} {D : DataW Unit} (h : w.ownsMap Try.prog 5 fnElem b n D) (x : Int) (hx : (Lit.int .u8 x).wf = true) (k : Nat) (hn : n < 100) :
    ∃ w', (Instr.mapUpdate 48 (.map (some b)) (.int .u8 x) (.func (.func k) #[] #[])).run Try.prog w = .ok () w' ∧ w'.ownsMap Try.prog 5 fnElem b (n + 1) (putF D x k) ∧ w.grownBy w' (some b) :=
  h.update byteKeyed Try.underlying48 (by unfold maxLen; omega) (Maps.keyOf_int_mk Try.underlying5 hx) (fnElem_fn k)
/-- What moves gives. -/
def GivesMoves (w : World) (e : Ending) (w' : World) : Prop :=
  ∃ b, e = .returned (.map (some b)) ∧ w'.ownsMap Try.prog 5 fnElem b 4 mapD ∧ Below w.heap.size w w'
theorem moves_any (w : World) : Calls Try.prog 28 #[] w (GivesMoves w) := by
  have hmm := @run_makeMap Try.prog
  have h0 : (w.alloc (.map #[] 0)).ownsMap Try.prog 5 fnElem w.heap.size 0 (.map []) := World.ownsMap_made _ _ _ _
  obtain ⟨w1, r1, h1, g1⟩ := ins_step h0 97 (by decide) 41 (by omega)
  obtain ⟨w2, r2, h2, g2⟩ := ins_step h1 98 (by decide) 42 (by omega)
  obtain ⟨w3, r3, h3, g3⟩ := ins_step h2 99 (by decide) 43 (by omega)
  obtain ⟨w4, r4, h4, g4⟩ := ins_step h3 100 (by decide) 44 (by omega)
  have H4 := Lib.hid h4
  have b0 : Below w.heap.size w (w.alloc (.map #[] 0)) := (Below.refl _ _).alloc (Nat.le_refl _) _
  have B4 := Lib.hid ((((b0.grown g1 b0.size (fun j hj => by cases hj; exact Nat.le_refl _)).grown g2 (Nat.le_trans b0.size g1.size) (fun j hj => by cases hj; exact Nat.le_refl _)).grown g3 (Nat.le_trans (Nat.le_trans b0.size g1.size) g2.size) (fun j hj => by cases hj; exact Nat.le_refl _)).grown g4 (Nat.le_trans (Nat.le_trans (Nat.le_trans b0.size g1.size) g2.size) g3.size) (fun j hj => by cases hj; exact Nat.le_refl _))
  clear h0 h1 h2 h3 h4 g1 g2 g3 g4 b0
  go_enter Try.func28, Try.ntmps28
  go_wp2
  go_ret
  exact ⟨_, rfl, H4.out, B4.out⟩

theorem zeroF (w : World) : (zeroValue 46).run Try.prog w = .ok .nilFunc w := by kernel_rfl
theorem look_at {w : World} {b : Nat} (h : w.ownsMap Try.prog 5 fnElem b 4 mapD) (x : Int) (hx : (Lit.int .u8 x).wf = true) :
    ∃ v ps, (Instr.lookup 48 (.map (some b)) (.int .u8 x) true).run Try.prog w = .ok (.tuple #[v, .bool (Maps.has mapD (.int .u8 x))]) w ∧ fnElem v = some (mapD.atKey (.int .u8 x) (.agg []), ps) :=
  h.look_ok byteKeyed Try.underlying48 (zeroF w) fnElem_nil (Maps.keyOf_int_mk Try.underlying5 hx)
theorem look_hit {w : World} {b : Nat} (h : w.ownsMap Try.prog 5 fnElem b 4 mapD) (x : Int) (k : Nat) (hx : (Lit.int .u8 x).wf = true) (h1 : Maps.has mapD (.int .u8 x) = true) (h2 : mapD.atKey (.int .u8 x) (.agg []) = .lit (.int .i64 k)) :
    (Instr.lookup 48 (.map (some b)) (.int .u8 x) true).run Try.prog w = .ok (.tuple #[.func (.func k) #[] #[], .bool true]) w := by
  obtain ⟨v, ps, hr, hv⟩ := look_at h x hx
  rw [h1] at hr
  rcases fnElem_inv hv with ⟨n, rfl, hn⟩ | ⟨-, hn⟩
  · rw [h2] at hn
    simp only [DataW.lit.injEq, Lit.int.injEq, true_and] at hn
    have : k = n := by omega
    subst this
    exact hr
  · rw [h2] at hn
    cases hn
theorem look_miss {w : World} {b : Nat} (h : w.ownsMap Try.prog 5 fnElem b 4 mapD) (x : Int) (hx : (Lit.int .u8 x).wf = true) (h0 : x < 97 ∨ 100 < x) :
    ∃ v, (Instr.lookup 48 (.map (some b)) (.int .u8 x) true).run Try.prog w = .ok (.tuple #[v, .bool false]) w := by
  obtain ⟨v, ps, hr, hv⟩ := look_at h x hx
  have hm : Maps.has mapD (.int .u8 x) = false := by
    unfold mapD putF
    rw [Maps.has_put_other (by simp; omega), Maps.has_put_other (by simp; omega), Maps.has_put_other (by simp; omega), Maps.has_put_other (by simp; omega)]
    rfl
  rw [hm] at hr
  exact ⟨v, hr⟩
theorem hit97 : Maps.has mapD (.int .u8 97) = true ∧ mapD.atKey (.int .u8 97) (.agg []) = .lit (.int .i64 41) := ⟨by rfl, by rfl⟩
theorem hit98 : Maps.has mapD (.int .u8 98) = true ∧ mapD.atKey (.int .u8 98) (.agg []) = .lit (.int .i64 42) := ⟨by rfl, by rfl⟩
theorem hit99 : Maps.has mapD (.int .u8 99) = true ∧ mapD.atKey (.int .u8 99) (.agg []) = .lit (.int .i64 43) := ⟨by rfl, by rfl⟩
theorem hit100 : Maps.has mapD (.int .u8 100) = true ∧ mapD.atKey (.int .u8 100) (.agg []) = .lit (.int .i64 44) := ⟨by rfl, by rfl⟩
theorem mv1_any (px py sd : Int) (w : World) (h1 : 0 ≤ px) (h2 : px ≤ 1000) (h3 : 0 ≤ py) (h4 : py ≤ 1000) (h5 : 0 ≤ sd) (h6 : sd ≤ 4) :
    Calls Try.prog 41 #[.agg #[.int .i64 px, .int .i64 py], .int .i64 sd] w fun e w' => e = .returned (.agg #[.int .i64 (px), .int .i64 (py)]) ∧ Below w.heap.size w w' := by
  go_enter Try.func41, Try.ntmps41
  go_wp2
  (try simp only [Exit.inBlock, Exit.then])
  refine bodyPost_ret (v := .agg #[.int .i64 (px), .int .i64 (py)]) ?_ rfl ⟨rfl, ?_⟩
  · rw [results_cell1 rfl]
    go_simp
  · have b1 := Below.alloc (Below.refl w.heap.size w) (Nat.le_refl _) (.cells #[.int .i64 px, .int .i64 py] 41)
    exact Below.alloc b1 b1.size _
theorem mv2_any (px py sd : Int) (w : World) (h1 : 0 ≤ px) (h2 : px ≤ 1000) (h3 : 0 ≤ py) (h4 : py ≤ 1000) (h5 : 0 ≤ sd) (h6 : sd ≤ 4) :
    Calls Try.prog 42 #[.agg #[.int .i64 px, .int .i64 py], .int .i64 sd] w fun e w' => e = .returned (.agg #[.int .i64 (px + sd), .int .i64 (py)]) ∧ Below w.heap.size w w' := by
  go_enter Try.func42, Try.ntmps42
  go_wp2
  (try simp only [Exit.inBlock, Exit.then])
  refine bodyPost_ret (v := .agg #[.int .i64 (px + sd), .int .i64 (py)]) ?_ rfl ⟨rfl, ?_⟩
  · rw [results_cell1 rfl]
    go_simp
  · have b1 := Below.alloc (Below.refl w.heap.size w) (Nat.le_refl _) (.cells #[.int .i64 px, .int .i64 py] 41)
    exact Below.alloc b1 b1.size _
theorem mv3_any (px py sd : Int) (w : World) (h1 : 0 ≤ px) (h2 : px ≤ 1000) (h3 : 0 ≤ py) (h4 : py ≤ 1000) (h5 : 0 ≤ sd) (h6 : sd ≤ 4) :
    Calls Try.prog 43 #[.agg #[.int .i64 px, .int .i64 py], .int .i64 sd] w fun e w' => e = .returned (.agg #[.int .i64 (px), .int .i64 (py + sd)]) ∧ Below w.heap.size w w' := by
  go_enter Try.func43, Try.ntmps43
  go_wp2
  (try simp only [Exit.inBlock, Exit.then])
  refine bodyPost_ret (v := .agg #[.int .i64 (px), .int .i64 (py + sd)]) ?_ rfl ⟨rfl, ?_⟩
  · rw [results_cell1 rfl]
    go_simp
  · have b1 := Below.alloc (Below.refl w.heap.size w) (Nat.le_refl _) (.cells #[.int .i64 px, .int .i64 py] 41)
    exact Below.alloc b1 b1.size _
theorem mv4_any (px py sd : Int) (w : World) (h1 : 0 ≤ px) (h2 : px ≤ 1000) (h3 : 0 ≤ py) (h4 : py ≤ 1000) (h5 : 0 ≤ sd) (h6 : sd ≤ 4) :
    Calls Try.prog 44 #[.agg #[.int .i64 px, .int .i64 py], .int .i64 sd] w fun e w' => e = .returned (.agg #[.int .i64 (px + sd), .int .i64 (py + sd)]) ∧ Below w.heap.size w w' := by
  go_enter Try.func44, Try.ntmps44
  go_wp2
  (try simp only [Exit.inBlock, Exit.then])
  refine bodyPost_ret (v := .agg #[.int .i64 (px + sd), .int .i64 (py + sd)]) ?_ rfl ⟨rfl, ?_⟩
  · rw [results_cell1 rfl]
    go_simp
  · have b1 := Below.alloc (Below.refl w.heap.size w) (Nat.le_refl _) (.cells #[.int .i64 px, .int .i64 py] 41)
    exact Below.alloc b1 b1.size _

end Go.Proofs.Ytlmigoplffdpiaa
