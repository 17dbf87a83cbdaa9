/- Contract: ProfileWatch of the program. -/
import Derived.Test.YtlmigoplffdpiaaSWatch
import Derived.Test.YtlmigoplffdpiaaSeen
import Derived.Test.YtlmigoplffdpiaaOnes
import Derived.IntWalk
import Derived.RegionTactic
import Derived.BigRegion
import Derived.Test.YtlmigoplffdpiaaPlainSel
import Derived.Test.YtlmigoplffdpiaaApp
namespace Go.Proofs.Ytlmigoplffdpiaa
open Go.RowKit

theorem Try.infoUint : (Try.prog.info? 32).map (fun i => (i.zero, i.size, i.bytes)) = some (some (.int .u64 0), 1, 8) := by kernel_rfl
def uV (n : Nat) : Value := .int .u64 (n : Int)
/-- An own slice of numbers without a sign. -/
def OwnU (w : World) (B : Nat) (v : Value) (zs : List Nat) : Prop := w.ownsRow B 32 1 v zs.length (zs.map uV)
theorem OwnU.made {w : World} {B g n : Nat} (h : w.ownsRow B 32 1 (.slice (some ⟨g, 0, none⟩) n n) n (madeCells (Value.int .u64 0).cells (n * 1)).toList) : OwnU w B (.slice (some ⟨g, 0, none⟩) n n) (List.replicate n 0) := by
  unfold OwnU
  have e : (madeCells (Value.int .u64 0).cells (n * 1)).toList = (List.replicate n 0).map uV := by
    rw [Nat.mul_one]
    show (madeCells #[Value.int .u64 0] n).toList = _
    rw [toList_madeCells_one]
    simp [uV]
  rw [e] at h
  simpa using h
theorem OwnU.lt {w : World} {B : Nat} {v : Value} {zs : List Nat} (h : OwnU w B v zs) : ∀ k, v.ownBlock = some k → B ≤ k ∧ k < w.heap.size := World.ownsRow.lt h
theorem OwnU.below {w w' : World} {B : Nat} {v : Value} {zs : List Nat} (h : OwnU w B v zs) (hb : Below w.heap.size w w') : OwnU w' B v zs := by
  refine World.ownsRow.kept h (grownBy_of_below hb none) ?_
  cases hv : v.ownBlock with
  | none => exact .inl rfl
  | some k => exact .inr fun e => by cases e
theorem OwnU.len {w : World} {B n cap : Nat} {a : Option Addr} {zs : List Nat} (h : OwnU w B (.slice a n cap) zs) : n = zs.length := by
  rcases h.2 with ⟨hv, hn⟩ | ⟨g, cap', cur, hv, _⟩
  · simp only [Value.slice.injEq] at hv
    omega
  · simp only [Value.slice.injEq] at hv
    exact hv.2.1
theorem OwnU.cellAt {w : World} {B g n cap : Nat} {zs : List Nat} (h : OwnU w B (.slice (some ⟨g, 0, none⟩) n cap) zs) (i : Nat) (hi : i < n) : w.cell? ⟨g, i, none⟩ = some (.int .u64 (zs.getD i 0 : Nat)) := by
  obtain rfl := h.len
  rw [World.ownsRow.cellAt h i (by omega)]
  simp [hi, uV]
theorem OwnU.frozenAt {w : World} {B g n cap : Nat} {zs : List Nat} (h : OwnU w B (.slice (some ⟨g, 0, none⟩) n cap) zs) (i : Nat) : w.frozen? ⟨g, i, none⟩ = false := by
  obtain rfl := h.len
  exact World.ownsRow.frozenAt h i
theorem OwnU.store {w : World} {B g n cap : Nat} {zs : List Nat} (h : OwnU w B (.slice (some ⟨g, 0, none⟩) n cap) zs) (i x : Nat) :
    OwnU (w.setCell ⟨g, i, none⟩ (.int .u64 (x : Int))) B (.slice (some ⟨g, 0, none⟩) n cap) (zs.set i x) ∧ w.grownBy (w.setCell ⟨g, i, none⟩ (.int .u64 (x : Int))) (some g) := by
  obtain rfl := h.len
  have := World.ownsRow.stored h i (.int .u64 (x : Int))
  refine ⟨?_, this.2⟩
  unfold OwnU
  rw [List.length_set, List.map_set]
  exact this.1

/-- The masks of the first k points. -/
noncomputable def mN (p : List Int) (n k : Nat) : List Nat := (List.range n).map (fun i => if i < k then maskN p i else 0)
theorem mN_len (p : List Int) (n k : Nat) : (mN p n k).length = n := by simp [mN]
theorem mN_zero (p : List Int) (n : Nat) : mN p n 0 = List.replicate n 0 := by
  simp [mN, List.map_const']
theorem mN_at (p : List Int) (n k i : Nat) (h : i < n) : (mN p n k).getD i 0 = if i < k then maskN p i else 0 := by simp [mN, h]
theorem mN_set (p : List Int) (n k : Nat) : (mN p n k).set k (maskN p k) = mN p n (k + 1) := by
  apply List.ext_getElem
  · simp [mN]
  · intro i h1 h2
    rw [List.getElem_set]
    simp only [mN, List.getElem_map, List.getElem_range]
    by_cases e : k = i
    · subst e; simp
    · rw [if_neg e]
      by_cases h : i < k
      · rw [if_pos h, if_pos (by omega)]
      · rw [if_neg h, if_neg (by omega)]
theorem mN_self (p : List Int) (n k : Nat) : (mN p n k).set k 0 = mN p n k := by
  apply List.ext_getElem
  · simp [mN]
  · intro i h1 h2
    rw [List.getElem_set]
    by_cases e : k = i
    · subst e; simp [mN]
    · rw [if_neg e]
theorem wrap_pow {k : Nat} (h : k ≤ 12) : IntKind.u64.wrap ((2 : Int) ^ k) = ((2 ^ k : Nat) : Int) := by
  have := pow_12 h
  rw [show (2 : Int) ^ k = ((2 ^ k : Nat) : Int) by simp, IntKind.wrap_u64]
  omega
theorem wrap_all {n : Nat} (h : n ≤ 12) : IntKind.u64.wrap (IntKind.u64.wrap ((2 : Int) ^ n) - 1) = ((2 ^ n - 1 : Nat) : Int) := by
  have := pow_12 h
  rw [wrap_pow h, IntKind.wrap_u64]
  omega
theorem or_bit {V b : Nat} {L : List Int} {j : Nat} (hj : j < L.length) (hb : L.getD j 0 = (b : Int)) (h : ∀ c, V.testBit c = decide ((c : Int) ∈ L.take j)) : ∀ c, (V ||| 2 ^ b).testBit c = decide ((c : Int) ∈ L.take (j + 1)) := by
  intro c
  have e : L[j] = (b : Int) := by rw [List.getD_eq_getElem?_getD, List.getElem?_eq_getElem hj] at hb; exact hb
  rw [Nat.testBit_or, h, Nat.testBit_two_pow, List.take_succ_eq_append_getElem hj, e]
  simp only [List.mem_append, List.mem_singleton, Bool.decide_or]
  congr 1
  by_cases hc : b = c
  · subst hc; simp
  · have : ¬ (c : Int) = (b : Int) := by omega
    simp [hc, this]
theorem set_set' (zs : List Nat) (k x y : Nat) : (zs.set k x).set k y = zs.set k y := by simp

theorem u64_or_nat (a b : Nat) (ha : a < 18446744073709551616) (hb : b < 18446744073709551616) : bits .or .u64 (a : Int) (b : Int) = ((a ||| b : Nat) : Int) := by
  have hx : a ||| b < 2 ^ 64 := Nat.or_lt_two_pow (by omega) (by omega)
  have e : ∀ a : Nat, a < 18446744073709551616 → (BitVec.ofInt 64 (a : Int)).toNat = a := by
    intro a ha
    rw [BitVec.ofInt_natCast, BitVec.toNat_ofNat]; exact Nat.mod_eq_of_lt (by omega)
  show IntKind.u64.wrap ((BitVec.ofInt 64 (a : Int) ||| BitVec.ofInt 64 (b : Int)).toNat : Int) = _
  rw [BitVec.toNat_or, e a ha, e b hb, IntKind.wrap_u64]
  omega
theorem u64_and_one (a : Nat) (ha : a < 18446744073709551616) : bits .and .u64 (a : Int) 1 = ((a % 2 : Nat) : Int) := by
  have e : ∀ a : Nat, a < 18446744073709551616 → (BitVec.ofInt 64 (a : Int)).toNat = a := by
    intro a ha
    rw [BitVec.ofInt_natCast, BitVec.toNat_ofNat]; exact Nat.mod_eq_of_lt (by omega)
  show IntKind.u64.wrap ((BitVec.ofInt 64 (a : Int) &&& BitVec.ofInt 64 ((1 : Nat) : Int)).toNat : Int) = _
  rw [BitVec.toNat_and, e a ha, e 1 (by omega), Nat.and_one_is_mod, IntKind.wrap_u64]
  omega

set_option maxHeartbeats 1000000 in
theorem iwatch_any (v : Value) (p : List Int) (w : World) (hr : Row w v p) (hn : p.length ≤ 1099511627776) :
    Calls Try.prog 9 #[v] w fun e w' => e = .returned (.int .i64 (watchV p)) ∧ Below w.heap.size w w' := by
  have HV := Lib.hid (ivalid_any v p w hr hn)
  cases hv : validB p
  · have HE := Lib.hid (watch_no1 hv)
    rw [hv] at HV
    obtain ⟨a, cap, rfl⟩ := hr.shape
    clear hv hr
    go_enter Try.func9, Try.ntmps9
    go_wp2_with (go_at_call 19; refine HV.out.mono ?_; rintro e w' ⟨rfl, rfl⟩)
    go_ret
    exact ⟨ret_int HE.out.symm, Below.refl _ _⟩
  · rw [hv] at HV
    have hl := valid_len hv
    obtain ⟨l1, l2⟩ := hl
    by_cases h12 : 12 < p.length
    · have HE := Lib.hid (watch_no2 h12)
      obtain ⟨a, cap, rfl⟩ := hr.shape
      clear hv hr
      go_enter Try.func9, Try.ntmps9
      go_wp2_with (go_at_call 19; refine HV.out.mono ?_; rintro e w' ⟨rfl, rfl⟩)
      go_ret
      exact ⟨ret_int HE.out.symm, Below.refl _ _⟩
    · obtain ⟨i0, hi, hz0, hz1, hz2⟩ := info_parts Try.infoUint
      have HE := Lib.hid (watch_yes hv (by omega))
      have HG := Lib.hid (fun (i : Nat) (wr : World) (hb : Below w.heap.size w wr) => iseen_any v p (i : Int) wr (hr.below hb) hn)
      obtain ⟨a, cap, rfl⟩ := hr.shape
      obtain ⟨n, hN⟩ : ∃ n, n = p.length := ⟨_, rfl⟩
      rw [← hN] at h12 l1 l2 HV HE HG ⊢
      have h12' : n ≤ 12 := by omega
      have hm : n ≤ maxLen := by unfold maxLen; omega
      have HN := Lib.hid hN
      have HVal := Lib.hid hv
      clear hv hr hn l2 h12 hN
      go_enter Try.func9, Try.ntmps9
      go_wp2_with (first | (go_at_call 19; refine HV.out.mono ?_; rintro e w' ⟨rfl, rfl⟩) | (at_make; refine wpList_make_full _ rfl _ _ 33 rfl w.heap.size 32 i0 (.int .u64 0) 1 Try.underlying33 hi hz0 hz1 .i64 .i64 _ _ n rfl rfl rfl rfl (by rw [hz2]; omega) hm (Nat.le_refl _) ?_; intro w1 hown hgrow))
      rw [wrap_all h12']
      have HA := Lib.hid (pow_12 h12')
      obtain ⟨A, hA⟩ : ∃ A, A = 2 ^ n := ⟨_, rfl⟩
      rw [← hA] at HA HE ⊢
      have HAe := Lib.hid hA
      have HU0 := Lib.hid (OwnU.made hown)
      have HB0 := Lib.hid (below_of_grown hgrow (Nat.le_refl _) (fun k e => by cases e))
      clear hA hown hgrow hi hz0 hz1 hz2 hm
      go_loopw [29] (fun i wr => ∃ k : Nat, k ≤ n ∧ i = .int .i64 k ∧ OwnU wr w.heap.size (.slice (some ⟨w.heap.size, 0, none⟩) n n) (mN p n k) ∧ Below w.heap.size w wr) (fun i _ => n - (intOf i).toNat)
      case atStart => exact ⟨0, Nat.zero_le _, rfl, by rw [mN_zero]; exact HU0.out, HB0.out⟩
      case round =>
        clear HU0 HB0
        obtain ⟨k, hk, rfl, hu, hb⟩ := hrel
        have HU := Lib.hid hu
        have HBe := Lib.hid hb
        clear hu hb
        by_cases hlt : k < n
        · have hLl := seenL_len p (k : Int)
          rw [← HN.out] at hLl
          have HLs := Lib.hid (show seenL p (k : Int) = sel (fun c => seesB p k c 0) n by
            rw [seenL_yes (hasB_iff.2 ⟨HVal.out, by omega, by have := HN.out; omega⟩), ← HN.out]; rfl)
          obtain ⟨L, hL⟩ : ∃ L, L = seenL p (k : Int) := ⟨_, rfl⟩
          have G := Lib.hid (HG.out k _ HBe.out)
          rw [← hL] at hLl HLs G
          clear hL
          go_wp2_with fail
          refine G.out.mono ?_
          rintro e w2 ⟨aL, cL, rfl, hoL, hbL⟩
          have hszo := (HU.out.lt _ rfl).2
          have HU2 := Lib.hid (HU.out.below hbL)
          have HB2 := Lib.hid (HBe.out.trans (hbL.mono HBe.out.size))
          have HO2 := Lib.hid hoL
          clear hoL hbL G HU HBe
          obtain ⟨l, hl⟩ : ∃ l, l = L.length := ⟨_, rfl⟩
          rw [← hl] at hLl HO2 ⊢
          have Hl := Lib.hid hl
          clear hl
          go_wp2
          obtain ⟨wo, rfl⟩ : ∃ wo : World, wo = wr := ⟨_, rfl⟩
          go_loopw [36] (fun t wr => ∃ j V : Nat, j ≤ l ∧ t = .int .i64 j ∧ OwnU wr w.heap.size (.slice (some ⟨w.heap.size, 0, none⟩) n n) ((mN p n k).set k V) ∧ Own wr wo.heap.size (.slice aL l cL) L ∧ (∀ c, V.testBit c = decide ((c : Int) ∈ L.take j)) ∧ V < 4096 ∧ w.heap.size < wo.heap.size ∧ Below w.heap.size w wr) (fun t _ => l - (intOf t).toNat)
          case atStart => exact ⟨0, 0, Nat.zero_le _, rfl, by rw [mN_self]; exact HU2.out, HO2.out, fun c => by simp, by omega, hszo, HB2.out⟩
          case round =>
            obtain ⟨j, V, hj, rfl, hu, ho, ht, hV, hsz, hb⟩ := hrel
            have HU := Lib.hid hu
            have HO := Lib.hid ho
            have HT := Lib.hid ht
            have HBe := Lib.hid hb
            clear hu ho ht hb
            by_cases hltj : j < l
            · obtain ⟨gL, cL', e, hg1, hg2, -, -⟩ := HO.out.form (by have := Hl.out; omega)
              rw [← Hl.out] at e
              simp only [Value.slice.injEq, true_and] at e
              obtain ⟨rfl, rfl⟩ := e
              have hcj := HO.out.cellAt j hltj
              obtain ⟨b, hbn, hbs, hbe⟩ := sel_at_lt (fun c => seesB p k c 0) n j (by rw [← HLs.out, ← Hl.out]; exact hltj)
              rw [← HLs.out] at hbe
              rw [hbe] at hcj
              have HBi := Lib.hid (or_bit (V := V) (by rw [← Hl.out]; exact hltj) hbe HT.out)
              have hb12 : b ≤ 12 := by omega
              have hp2 := pow_12 hb12
              have HOr := Lib.hid (show bits .or .u64 (V : Int) (IntKind.u64.wrap ((2 : Int) ^ b)) = ((V ||| 2 ^ b : Nat) : Int) by rw [wrap_pow hb12]; exact u64_or_nat _ _ (by omega) (by omega))
              have hOl : V ||| 2 ^ b < 4096 := Nat.or_lt_two_pow (n := 12) (by omega) (Nat.lt_of_lt_of_le (Nat.pow_lt_pow_right (by omega) (show b < 12 by omega)) (by decide))
              have ku := HU.out.cellAt k hlt
              have fu := HU.out.frozenAt k
              rw [List.getD_eq_getElem?_getD, List.getElem?_set_self (by rw [mN_len]; exact hlt)] at ku
              simp only [Option.getD_some] at ku
              have q1 : (0 : Int) ≤ (k : Int) := by omega
              have q2 : (k : Int) < (n : Int) := by omega
              have q3 : (0 : Int) ≤ (b : Int) := by omega
              clear hbs hbe hp2
              go_wp2
              go_region
              have HSt := Lib.hid (HU.out.store k (V ||| 2 ^ b))
              have HUn := Lib.hid (show OwnU (wr.setCell ⟨w.heap.size, k, none⟩ (.int .u64 ((V ||| 2 ^ b : Nat) : Int))) w.heap.size (.slice (some ⟨w.heap.size, 0, none⟩) n n) ((mN p n k).set k (V ||| 2 ^ b)) by have h := HSt.out.1; rw [set_set'] at h; exact h)
              have HOn := Lib.hid (HO.out.kept HSt.out.2 (fun g hg e => by have := (HO.out.lt g hg).1; simp only [Option.some.injEq] at e; omega))
              have HBn := Lib.hid (HBe.out.setCell (p := ⟨w.heap.size, k, none⟩) (Nat.le_refl _) (.int .u64 ((V ||| 2 ^ b : Nat) : Int)))
              all_goals
                go_wp2
                go_roundw
                case rel => exact ⟨j + 1, V ||| 2 ^ b, by omega, by go_num, by rw [HOr.out]; exact HUn.out, by rw [HOr.out]; exact HOn.out, HBi.out, hOl, hsz, by rw [HOr.out]; exact below_drewN HBn.out 1⟩
                case measure => simp [intOf]; omega
            · have hje : j = l := by omega
              subst hje
              have HVm := Lib.hid (show V = maskN p k from mk_eq (fun c => by
                rw [HT.out, Hl.out, List.take_length, HLs.out, ← HN.out]
                by_cases hc : c < n
                · cases hs : seesB p k c 0
                  · have : ¬ ((c : Int) ∈ sel (fun c => seesB p k c 0) n) := fun h => by
                      obtain ⟨c', h1, h2, h3⟩ := sel_mem.1 h
                      have : c' = c := by omega
                      subst this; rw [hs] at h2; cases h2
                    simp [this]
                  · have : (c : Int) ∈ sel (fun c => seesB p k c 0) n := sel_mem.2 ⟨c, hc, hs, rfl⟩
                    simp [this, hc]
                · have : ¬ ((c : Int) ∈ sel (fun c => seesB p k c 0) n) := fun h => by
                    obtain ⟨c', h1, h2, h3⟩ := sel_mem.1 h
                    omega
                  simp [this, hc]))
              go_wp2
              go_roundw
              case rel => exact ⟨k + 1, by omega, by go_num, by rw [← mN_set, ← HVm.out]; exact HU.out, HBe.out⟩
              case measure => simp [intOf]; omega
        · have hke : k = n := by omega
          rw [hke] at HU ⊢
          obtain ⟨A1, A2⟩ := HA.out
          have HC := Lib.hid (show ∀ i, i < n → wr.cell? ⟨w.heap.size, i, none⟩ = some (.int .u64 (maskN p i : Nat)) from fun i hi => by have h := HU.out.cellAt i hi; rw [mN_at _ _ _ _ hi, if_pos hi] at h; exact h)
          have HMl := Lib.hid (show ∀ i, maskN p i < A from fun i => by rw [HAe.out, HN.out]; exact mk_lt _ _)
          have HLt := Lib.hid (show ∀ s m, watN p s m < A from fun s m => by rw [HAe.out, HN.out]; exact watN_lt p s m)
          have HSu := Lib.hid (show ∀ s m, watN p s (m + 1) = if s.testBit m then watN p s m ||| maskN p m else watN p s m from fun _ _ => rfl)
          have HWm := Lib.hid (show ∀ m, wmin p (m + 1) = if watN p (m + 1) n = A - 1 then min (wmin p m) (popN (m + 1) n) else wmin p m from fun m => by rw [HAe.out, HN.out]; rfl)
          have HWl := Lib.hid (show ∀ m, wmin p m ≤ n from fun m => by rw [HN.out]; exact wmin_le p m)
          have HW0 := Lib.hid (show wmin p 0 = n from by rw [HN.out]; rfl)
          clear hke hlt hk HU
          go_wp2
          go_loop [8, 9] (fun b s => ∃ c : Nat, 1 ≤ c ∧ c ≤ A ∧ s = .int .u64 c ∧ b = .int .i64 (wmin p (c - 1) : Nat)) (fun _ s => A - (intOf s).toNat)
          case atStart => exact ⟨1, Nat.le_refl _, by omega, rfl, by rw [Nat.sub_self, HW0.out]⟩
          case round =>
            obtain ⟨c, hc1, hc2, rfl, rfl⟩ := hrel
            by_cases hltc : c < A
            · have hcl : (c : Int) ≤ ((A - 1 : Nat) : Int) := by omega
              have HOn := Lib.hid (ones_any c wr (by omega))
              rw [pop_12 (n := n) (by rw [← HAe.out]; exact hltc) h12'] at HOn
              go_wp2
              go_loop [10, 59] (fun x i => ∃ m : Nat, m ≤ n ∧ i = .int .i64 m ∧ x = .int .u64 (watN p c m : Nat)) (fun _ i => n - (intOf i).toNat)
              case atStart => exact ⟨0, Nat.zero_le _, rfl, rfl⟩
              case round =>
                obtain ⟨m, hm, rfl, rfl⟩ := hrel
                by_cases hltm : m < n
                · have hcm := HC.out m hltm
                  have hM := HMl.out m
                  have hW := HLt.out c m
                  have hS := HSu.out c m
                  have ht := bit_mod c m
                  have hR : c / 2 ^ m ≤ c := Nat.div_le_self _ _
                  obtain ⟨M, hMe⟩ : ∃ M, M = maskN p m := ⟨_, rfl⟩
                  obtain ⟨W, hWe⟩ : ∃ W, W = watN p c m := ⟨_, rfl⟩
                  rw [← hMe] at hcm hM hS
                  rw [← hWe] at hW hS ⊢
                  have hx : bits .and .u64 ((c : Int) / 2 ^ m) 1 = ((c / 2 ^ m % 2 : Nat) : Int) := by
                    rw [show (c : Int) / 2 ^ m = ((c / 2 ^ m : Nat) : Int) by simp]
                    exact u64_and_one _ (by omega)
                  clear hMe hWe
                  cases hb : c.testBit m
                  · have e : (bits .and .u64 ((c : Int) / 2 ^ m) 1 == 1) = false := by
                      rw [hb] at ht
                      have := of_decide_eq_false ht.symm
                      rw [hx]
                      simp only [beq_eq_false_iff_ne, ne_eq]
                      omega
                    rw [hb] at hS
                    simp only [Bool.false_eq_true, if_false] at hS
                    have HS := Lib.hid hS
                    clear hS ht hb hx hR
                    go_wp2
                    go_round
                    case rel => exact ⟨m + 1, by omega, by go_num, by rw [HS.out]⟩
                    case measure => simp [intOf]; omega
                  · have e : (bits .and .u64 ((c : Int) / 2 ^ m) 1 == 1) = true := by
                      rw [hb] at ht
                      have := of_decide_eq_true ht.symm
                      rw [hx]
                      simp only [beq_iff_eq]
                      omega
                    rw [hb] at hS
                    simp only [if_true] at hS
                    have HS := Lib.hid hS
                    have HOr := Lib.hid (u64_or_nat W M (by omega) (by omega))
                    clear hS ht hb hx hR
                    go_wp2
                    go_round
                    case rel => exact ⟨m + 1, by omega, by go_num, by rw [HS.out, ← HOr.out]⟩
                    case measure => simp [intOf]; omega
                · have hme : m = n := by omega
                  rw [hme]
                  have hW := HLt.out c n
                  have hC := pop_le c n
                  have hB := HWl.out (c - 1)
                  have hWS := HWm.out (c - 1)
                  rw [show c - 1 + 1 = c by omega] at hWS
                  obtain ⟨W, hWe⟩ : ∃ W, W = watN p c n := ⟨_, rfl⟩
                  obtain ⟨C, hCe⟩ : ∃ C, C = popN c n := ⟨_, rfl⟩
                  obtain ⟨B, hBe⟩ : ∃ B, B = wmin p (c - 1) := ⟨_, rfl⟩
                  rw [← hWe] at hW hWS ⊢
                  rw [← hCe] at hC hWS HOn
                  rw [← hBe] at hB hWS ⊢
                  clear hWe hCe hBe hme hm hltm
                  by_cases hw : W = A - 1
                  · rw [if_pos hw] at hWS
                    have e : ((W : Int) == ((A - 1 : Nat) : Int)) = true := by simp; omega
                    have HWS := Lib.hid hWS
                    clear hw hWS
                    go_wp2_with (go_at_call 21; refine HOn.out.mono ?_; rintro e w' ⟨rfl, rfl⟩)
                    all_goals
                      go_round
                      case rel => exact ⟨c + 1, by omega, by omega, by go_num, by rw [Nat.add_sub_cancel, HWS.out]; exact val_int (by omega)⟩
                      case measure => simp [intOf]; omega
                  · rw [if_neg hw] at hWS
                    have e : ((W : Int) == ((A - 1 : Nat) : Int)) = false := by simp; omega
                    have HWS := Lib.hid hWS
                    clear hw hWS
                    go_wp2
                    go_round
                    case rel => exact ⟨c + 1, by omega, by omega, by go_num, by rw [Nat.add_sub_cancel, HWS.out]⟩
                    case measure => simp [intOf]; omega
            · have hcl : ((A - 1 : Nat) : Int) < (c : Int) := by omega
              have hcA : c = A := by omega
              have HE2 := Lib.hid (show watchV p = (wmin p (c - 1) : Int) by rw [hcA]; exact HE.out)
              clear hcA
              go_wp2
              go_ret
              exact ⟨ret_int HE2.out.symm, HBe.out⟩

end Go.Proofs.Ytlmigoplffdpiaa
