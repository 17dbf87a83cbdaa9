/- Contracts of the helpers of the laws: toIntS, eqIntS, markIntS, heldIntS. -/
import Derived.Test.YtkhhloeemecokaaRows
import Derived.Test.YtkhhloeemecokaaMem
import Derived.Outline
import Derived.Deep.QuietTactic
import Derived.BigQuiet
import Derived.RegionTactic
namespace Go.Proofs.Ytkhhloeemecokaa
open Go.RowKit

theorem Try.infoInt : (Try.prog.info? 3).map (fun i => (i.zero, i.size, i.bytes)) = some (some (.int .i64 0), 1, 8) := by kernel_rfl

theorem Own.alloc {w : World} {B : Nat} {v : Value} {zs : List Int} (h : Own w B v zs) (o : Obj) : Own (w.alloc o) B v zs := World.ownsRow.alloc h o

theorem Own.emptyLit (w : World) (B : Nat) (hB : B ≤ w.heap.size) : Own (w.alloc (.cells #[] 3)) B (.slice (some ⟨w.heap.size, 0, none⟩) 0 0) [] :=
  World.ownsRow_lit (e := 3) (size := 1) w #[] 0 hB (Nat.zero_le _) rfl

/-- 'append(s, y)' at a slice of the call's own. -/
theorem append1 {w : World} {ops : Array Oper} {rest : List Oper} {o : Oper} {a : Act} {Q : Exit → Act → World → Prop} (hgd : o.guard = none) (s x : Operand)
    (ho : o.op = .call { callee := .builtin .append, args := #[s, x], argTypes := #[28, 28] })
    (B : Nat) (sv : Value) (zs : List Int) (y : Int) (hs : a.eval s = sv) (hx : a.eval x = .slice (some ⟨w.heap.size, 0, none⟩) 1 1) (hown : Own w B sv zs) (hB : B ≤ w.heap.size) (hlen : zs.length ≤ 1099511627776)
    (h : ∀ v' w', Own w' B v' (zs ++ [y]) → w.grownBy w' sv.ownBlock → wpList Try.prog ops Q rest (a.put o.dst v') w') :
    wpList Try.prog ops Q (o :: rest) a (w.alloc (.cells #[.int .i64 y] 3)) := by
  obtain ⟨i0, hi, hz0, hz1, hz2⟩ := info_parts Try.infoInt
  refine wpList_append_own _ hgd s x 28 ho B 3 i0 (.int .i64 0) 1 8 Try.underlying28 hi hz0 hz1 hz2 rfl (by decide) sv zs.length (zs.map (Value.int .i64)) hs (Own.alloc hown _) ⟨w.heap.size, 0, none⟩ 1 1 [.int .i64 y] hx rfl (cell_one_new _ _ _) (by intro u hu; simp at hu; subst hu; rfl) (by unfold maxLen; omega) (by omega) (by simp; omega) ?_
  intro v' w' ho' hg' _
  refine h v' w' ?_ (grownBy_trans (World.grownBy_alloc w _ _) hg')
  unfold Own
  simpa using ho'

theorem toIntS_any (v : Value) (zs : List Int) (w : World) (hr : Row w v zs) (hn : zs.length ≤ 1099511627776) :
    Calls Try.prog 47 #[v] w (GivesRow zs w) := by
  obtain ⟨a, cap, rfl⟩ := hr.shape
  obtain ⟨-, hc⟩ := hr.cells
  obtain ⟨i0, hi, hz0, hz1, hz2⟩ := info_parts Try.infoInt
  obtain ⟨n, hN⟩ : ∃ n, n = zs.length := ⟨_, rfl⟩
  rw [← hN] at hc hn ⊢
  have HN := Lib.hid hN; clear hN
  have HC := Lib.hid hc; clear hc
  clear hr
  have hm : n ≤ maxLen := by unfold maxLen; omega
  go_enter Try.func47, Try.ntmps47
  go_wp2_with (at_make; refine wpList_make_full _ rfl _ _ 28 rfl w.heap.size 3 i0 (.int .i64 0) 1 Try.underlying28 hi hz0 hz1 .i64 .i64 _ _ n rfl rfl rfl rfl (by rw [hz2]; omega) hm (Nat.le_refl _) ?_; intro w1 hown hgrow)
  go_loopw [4] (fun i wr => ∃ k : Nat, k ≤ n ∧ i = .int .i64 k ∧ Own wr w.heap.size (.slice (some ⟨w.heap.size, 0, none⟩) n n) (zs.take k ++ List.replicate (n - k) 0) ∧ Below w.heap.size w wr) (fun i _ => n - (intOf i).toNat)
  case atStart => exact ⟨0, Nat.zero_le _, rfl, by simpa using Own.made hown, below_of_grown hgrow (Nat.le_refl _) (fun k e => by cases e)⟩
  case round =>
    obtain ⟨k, hk, rfl, ho, hb⟩ := hrel
    by_cases hlt : k < n
    · obtain ⟨b, off, rfl, hcell⟩ := HC.out k hlt
      have hcell' := (hb.cell (World.block_lt_of_cell? w _ hcell)).trans hcell
      have hfr := ho.frozenAt k
      have hold := ho.cellAt k hlt
      have H := Lib.hid (ho.store k (zs.getD k 0)); clear ho
      have hb' := Lib.hid hb
      clear hb hcell hown hgrow
      go_wp2
      go_roundw
      case rel => exact ⟨k + 1, by omega, by go_num, by rw [← fill_step' zs n k HN.out hlt]; exact H.out.1, hb'.out.setCell (Nat.le_refl _) _⟩
      case measure => simp [intOf]; omega
    · have hke : k = n := by omega
      subst hke
      go_wp2
      go_ret
      exact GivesRow.mk HN.out (by rw [Nat.sub_self, List.replicate_zero, List.append_nil, List.take_of_length_le (Nat.le_of_eq HN.out.symm)] at ho; exact ho) hb

theorem eqIntS_any (va vb : Value) (xs ys : List Int) (w : World) (ha : Row w va xs) (hb : Row w vb ys) (hn : xs.length ≤ 1099511627776) (hn' : ys.length ≤ 1099511627776) :
    Calls Try.prog 21 #[va, vb] w fun e w' => e = .returned (.bool (decide (xs = ys))) ∧ ∃ n, w' = w.drewN n := by
  obtain ⟨a, cap, rfl⟩ := ha.shape
  obtain ⟨-, hca⟩ := ha.cells
  obtain ⟨b, cap', rfl⟩ := hb.shape
  obtain ⟨-, hcb⟩ := hb.cells
  obtain ⟨n, hN⟩ : ∃ n, n = xs.length := ⟨_, rfl⟩
  obtain ⟨m, hM⟩ : ∃ m, m = ys.length := ⟨_, rfl⟩
  rw [← hN] at hca hn ⊢
  rw [← hM] at hcb hn' ⊢
  have HN := Lib.hid hN; clear hN
  have HM := Lib.hid hM; clear hM
  have HA := Lib.hid hca; clear hca
  have HB := Lib.hid hcb; clear hcb
  clear ha hb
  by_cases hne : n = m
  · subst hne
    have hb0 : ((n : Int) != (n : Int)) = false := by simp
    go_enter Try.func21, Try.ntmps21
    go_wp2
    go_loopw [5] (fun i wr => ∃ k : Nat, k ≤ n ∧ i = .int .i64 k ∧ xs.take k = ys.take k ∧ ∃ q, wr = w.drewN q) (fun i _ => n - (intOf i).toNat)
    case atStart => exact ⟨0, Nat.zero_le _, rfl, rfl, 0, rfl⟩
    case round =>
      obtain ⟨k, hk, rfl, ht, q, rfl⟩ := hrel
      have HT := Lib.hid ht; clear ht
      by_cases hlt : k < n
      · obtain ⟨ba, oa, rfl, hcella⟩ := HA.out k hlt
        obtain ⟨bb, ob, rfl, hcellb⟩ := HB.out k hlt
        have k1 : (0 : Int) ≤ (k : Int) := by omega
        have k2 : (k : Int) < (n : Int) := by omega
        obtain ⟨x, hx⟩ : ∃ x, x = xs.getD k 0 := ⟨_, rfl⟩
        obtain ⟨y, hy⟩ : ∃ y, y = ys.getD k 0 := ⟨_, rfl⟩
        rw [← hx] at hcella
        rw [← hy] at hcellb
        have HX := Lib.hid hx; clear hx
        have HY := Lib.hid hy; clear hy
        by_cases he : x = y
        · subst he
          have heb : (x != x) = false := by simp
          go_wp2
          go_quiet (fail)
          go_wp2
          go_roundw
          case rel => exact ⟨k + 1, by omega, by go_num, take_eq_step xs ys k (by have := HN.out; omega) (by have := HM.out; omega) HT.out (HX.out.symm.trans HY.out), _, rfl⟩
          case measure => simp [intOf]; omega
        · have heb : (x != y) = true := by simpa using he
          have HE := Lib.hid (ne_of_getD xs ys k (by rw [← HX.out, ← HY.out]; exact he)); clear he
          go_wp2
          go_quiet (fail)
          go_wp2
          go_ret
          exact ⟨ret_bool (by simp [HE.out]), q + nq, by simp⟩
      · go_wp2
        go_ret
        have : xs = ys := by
          have h1 := HT.out
          rw [List.take_of_length_le (by have := HN.out; omega), List.take_of_length_le (by have := HM.out; omega)] at h1
          exact h1
        exact ⟨ret_bool (by simp [this]), _, rfl⟩
  · have hb0 : ((n : Int) != (m : Int)) = true := by simp; omega
    have HE := Lib.hid (show ¬ xs = ys from fun h => hne (by rw [HN.out, HM.out, h])); clear hne
    go_enter Try.func21, Try.ntmps21
    go_wp2
    go_ret
    exact ⟨ret_bool (by simp [HE.out]), 0, rfl⟩

/-- What markIntS gives. -/
def Marked (m : Int) (B : Nat) (v : Value) (n : Nat) (w : World) (e : Ending) (w' : World) : Prop :=
  e = .returned (.int .i64 (m + (n : Int))) ∧ Own w' B v (marks m n) ∧ w.grownBy w' v.ownBlock

theorem markIntS_any (v : Value) (zs : List Int) (m : Int) (B : Nat) (w : World) (hr : Own w B v zs) (hn : zs.length ≤ 1099511627776) (hm0 : 0 ≤ m) (hm1 : m ≤ 1099511627776) :
    Calls Try.prog 24 #[v, .int .i64 m] w (Marked m B v zs.length w) := by
  obtain ⟨a, cap, rfl⟩ := hr.shape
  obtain ⟨n, hN⟩ : ∃ n, n = zs.length := ⟨_, rfl⟩
  rw [← hN] at hr hn ⊢
  have HN := Lib.hid hN; clear hN
  go_enter Try.func24, Try.ntmps24
  go_wp2
  go_loopw [1, 5] (fun q i wr => ∃ k : Nat, k ≤ n ∧ i = .int .i64 k ∧ q = .int .i64 (m + k) ∧ Own wr B (.slice a n cap) (marks m k ++ zs.drop k) ∧ w.grownBy wr (Value.slice a n cap).ownBlock) (fun _ i _ => n - (intOf i).toNat)
  case atStart => exact ⟨0, Nat.zero_le _, rfl, by go_num, hr, grownBy_refl _ _⟩
  case round =>
    obtain ⟨k, hk, rfl, rfl, ho, hg⟩ := hrel
    clear hr
    by_cases hlt : k < n
    · obtain ⟨g, rfl⟩ := ho.addr (by omega)
      have hfr := ho.frozenAt k
      have hold := ho.cellAt k hlt
      obtain ⟨x, hx⟩ : ∃ x, x = (marks m k ++ zs.drop k).getD k 0 := ⟨_, rfl⟩
      rw [← hx] at hold
      clear hx
      have H := Lib.hid (ho.store k (m + k)); clear ho
      have HG := Lib.hid hg; clear hg
      go_wp2
      go_roundw
      case rel => exact ⟨k + 1, by omega, by go_num, by go_num, by rw [← marks_step zs m k (by have := HN.out; omega)]; exact H.out.1, grownBy_trans HG.out H.out.2⟩
      case measure => simp [intOf]; omega
    · have hke : k = n := by omega
      subst hke
      go_wp2
      go_ret
      exact ⟨rfl, by rw [List.drop_of_length_le (Nat.le_of_eq HN.out.symm), List.append_nil] at ho; exact ho, hg⟩

theorem heldIntS_any (v : Value) (m : Int) (n : Nat) (w : World) (hr : Row w v (marks m n)) (hn : n ≤ 1099511627776) (hm0 : 0 ≤ m) (hm1 : m ≤ 1099511627776) :
    Calls Try.prog 25 #[v, .int .i64 m] w fun e w' => e = .returned (.int .i64 (m + (n : Int))) ∧ w = w' := by
  obtain ⟨a, cap, rfl⟩ := hr.shape
  obtain ⟨-, hc⟩ := hr.cells
  rw [marks_len] at hc ⊢
  have HC := Lib.hid hc; clear hc hr
  go_enter Try.func25, Try.ntmps25
  go_wp2
  go_loop [1, 5] (fun q i => ∃ k : Nat, k ≤ n ∧ i = .int .i64 k ∧ q = .int .i64 (m + k)) (fun _ i => n - (intOf i).toNat)
  case atStart => exact ⟨0, Nat.zero_le _, rfl, by go_num⟩
  case round =>
    obtain ⟨k, hk, rfl, rfl⟩ := hrel
    by_cases hlt : k < n
    · obtain ⟨b, off, rfl, hcell⟩ := HC.out k hlt
      rw [marks_getD m n k hlt] at hcell
      have hne : ((m + (k : Int)) != (m + (k : Int))) = false := by simp
      go_wp2
      go_round
      case rel => exact ⟨k + 1, by omega, by go_num, by go_num⟩
      case measure => simp [intOf]; omega
    · have hke : k = n := by omega
      subst hke
      go_wp2
      go_ret
      exact ⟨rfl, rfl⟩

end Go.Proofs.Ytkhhloeemecokaa
