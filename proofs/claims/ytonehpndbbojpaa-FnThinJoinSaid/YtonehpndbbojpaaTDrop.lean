/- Contracts: ThinDrop of the program and of the reference. -/
import Derived.Test.YtonehpndbbojpaaTErr
import Derived.Test.YtonehpndbbojpaaApp
import Derived.Deep.RegionLaw
namespace Go.Proofs.Ytonehpndbbojpaa
open Go.RowKit

noncomputable def tdropB (p l : List Int) (k : Int) : Bool := thinB p l && inB k 1 ((l.length : Int) - 2)
noncomputable def tdropL (p l : List Int) (k : Int) : List Int := if tdropB p l k then l.take k.toNat ++ l.drop (k.toNat + 1) else []
theorem tdropL_yes {p l : List Int} {k : Int} (h : tdropB p l k = true) : tdropL p l k = l.take k.toNat ++ l.drop (k.toNat + 1) := by simp [tdropL, h]
theorem tdropL_no {p l : List Int} {k : Int} (h : tdropB p l k = false) : tdropL p l k = [] := by simp [tdropL, h]
theorem tdropL_len (p l : List Int) (k : Int) (h : l.length ≤ 1048576) : (tdropL p l k).length ≤ 1048576 := by unfold tdropL; split <;> simp; omega
theorem getD_take (l : List Int) (k j : Nat) (h : j < k) : (l.take k).getD j 0 = l.getD j 0 := by
  simp only [List.getD_eq_getElem?_getD, List.getElem?_take, if_pos h]
theorem getD_drop (l : List Int) (k j : Nat) : (l.drop k).getD j 0 = l.getD (k + j) 0 := by
  simp only [List.getD_eq_getElem?_getD, List.getElem?_drop]

set_option maxHeartbeats 400000 in
theorem stdrop_any (v u : Value) (p l : List Int) (k : Int) (B0 : Nat) (w : World) (hr : Row w v p) (hn : p.length ≤ 1099511627776) (hs : Own w B0 u l) (hm : l.length ≤ 1099511627776) :
    Calls Try.prog 35 #[v, u, .int .i64 k] w (GivesRowB (tdropL p l k) (tdropB p l k) w) := by
  have HV := Lib.hid (calls_below (sthinv_any v u p l w hr hn hs.row hm))
  cases hv : thinB p l
  · have HB := Lib.hid (show tdropB p l k = false by simp [tdropB, hv])
    rw [hv] at HV
    clear hv
    rw [tdropL_no HB.out, HB.out]
    go_enter Try.func35, Try.ntmps35
    go_wp2_with (go_at_call 20; refine HV.out.mono ?_; rintro e w' ⟨rfl, hb⟩)
    go_ret2
    exact GivesRowB.of (Own.emptyLit _ _ hb.size) (Below.alloc hb hb.size _)
  · have h0 := (thinB_iff.1 hv).2.1
    obtain ⟨g, cap, rfl, hg1, hg2, hcap, hcm⟩ := hs.form h0
    have HDB := Lib.hid (show tdropB p l k = inB k 1 ((l.length : Int) - 2) by simp [tdropB, hv])
    rw [hv] at HV
    have HC := Lib.hid (fun j hj => hs.cellAt j hj)
    have HY := Lib.hid (@tdropL_yes p l k)
    have HNo := Lib.hid (@tdropL_no p l k)
    have HTk := Lib.hid (fun j => getD_take l j)
    have HDp := Lib.hid (getD_drop l)
    have HLt := Lib.hid (show ∀ j, j ≤ l.length → (l.take j).length = j from fun j h => by simp; omega)
    have HLd := Lib.hid (show ∀ j, (l.drop j).length = l.length - j from fun j => by simp)
    obtain ⟨n, hN⟩ : ∃ n, n = l.length := ⟨_, rfl⟩
    rw [← hN] at hm h0 hcap HV HDB HC HLt HLd ⊢
    clear hr hs hv hN
    unfold maxLen at hcm
    cases hk : inB k 1 ((n : Int) - 2)
    · rw [hk] at HDB
      rw [HNo.out HDB.out, HDB.out]
      have h00 : (1 : Int) ≤ (n : Int) := by omega
      go_enter Try.func35, Try.ntmps35
      go_wp2_with (first | (go_at_call 20; refine HV.out.mono ?_; rintro e w' ⟨rfl, hb⟩) | (go_at_call 55; refine (in_any _ _ _ _).mono ?_; rintro e w2 ⟨rfl, rfl⟩))
      go_ret2
      exact GivesRowB.of (Own.emptyLit _ _ hb.size) (Below.alloc hb hb.size _)
    · rw [hk] at HDB
      rw [HY.out HDB.out, HDB.out]
      have IN := Lib.hid (fun W => in_any k 1 ((n : Int) - 2) W)
      rw [hk] at IN
      rw [inB_iff] at hk
      obtain ⟨i, hi⟩ : ∃ i : Nat, k = i := ⟨k.toNat, by omega⟩
      subst hi
      rw [Int.toNat_natCast]
      obtain ⟨k1, k2⟩ := hk
      have hi1 : 1 ≤ i := by omega
      have hi2 : i + 2 ≤ n := by omega
      have hne : ¬ cap = i + 1 := by omega
      have q0 : i ≤ cap := by omega
      have CL := Lib.hid (show ∀ W, Below w.heap.size w W → ∀ j, j < i → W.cell? ⟨g, 0 + j, none⟩ = some (.int .i64 ((l.take i).getD j 0)) from fun W hb j hj => by
        rw [HTk.out i j hj, Nat.zero_add]; exact (hb.cell (p := ⟨g, j, none⟩) hg2).trans (HC.out j (by omega)))
      have CR := Lib.hid (show ∀ W, Below w.heap.size w W → ∀ j, j < n - (i + 1) → W.cell? ⟨g, i + 1 + j, none⟩ = some (.int .i64 ((l.drop (i + 1)).getD j 0)) from fun W hb j hj => by
        rw [HDp.out (i + 1) j]; exact (hb.cell (p := ⟨g, i + 1 + j, none⟩) hg2).trans (HC.out (i + 1 + j) (by omega)))
      have BD := Lib.hid (show ∀ W, Below w.heap.size w W → Below w.heap.size w W.drew from fun W h => ⟨h.os, h.tape, h.output, h.size, h.block⟩)
      have q1 : IntKind.i64.wrap ((i : Int) + 1) = (i : Int) + 1 := IntWalk.i64_in _ (by omega)
      have q2 : (0 : Int) ≤ (i : Int) + 1 := by omega
      have q3 : (i : Int) + 1 ≤ (n : Int) := by omega
      have q4 : ((i : Int) + 1).toNat = i + 1 := by omega
      go_enter Try.func35, Try.ntmps35
      go_wp2_with (first | (go_at_call 20; refine HV.out.mono ?_; rintro e w1 ⟨rfl, hb⟩; (have HB1 := Lib.hid hb); (have hsz := hb.size); clear hb) | (go_at_call 55; refine (IN.out _).mono ?_; rintro e w2 ⟨rfl, rfl⟩))
      have BA := Lib.hid (BD.out _ (Below.alloc HB1.out hsz (.cells #[] 3)))
      have OA := Lib.hid (show Own (w1.alloc (.cells #[] 3)).drew w.heap.size (.slice (some ⟨w1.heap.size, 0, none⟩) 0 0) [] from Own.emptyLit w1 _ hsz)
      go_region_law (first
        | (refine appN_step rfl (.tmp 21) (.tmp 24) rfl w.heap.size _ [] (l.take i) g 0 i cap (by simp [Act.eval]) (by simp [Act.eval]) (HLt.out i (by omega)) (by omega) (CL.out _ BA.out) OA.out (by simp; omega) i (by simp) (by omega) ?_; intro g2 cap2 w4 ho4 hg4)
        | (refine appN_step rfl (.tmp 25) (.tmp 29) rfl w.heap.size _ (l.take i) (l.drop (i + 1)) g (i + 1) (n - (i + 1)) (cap - (i + 1)) (by simp [Act.eval]) (by simp [Act.eval]) (HLd.out _) (by omega) (CR.out _ (below_own BA.out OA.out (by simp; omega) hg4)) ho4 (Nat.le_trans BA.out.size hg4.size) (n - 1) (by rw [HLt.out i (by omega)]; omega) (by omega) ?_; intro g3 cap3 w5 ho5 hg5))
      have HBf := Lib.hid (below_own (below_own BA.out OA.out (by simp; omega) hg4) ho4 (Nat.le_trans BA.out.size hg4.size) hg5)
      have HOf := Lib.hid ho5
      clear ho4 ho5 hg4 hg5 q1 q4
      go_wp2
      go_ret2
      exact GivesRowB.of HOf.out HBf.out

theorem drop_ex (ks : List (Nat × Int)) (i : Nat) (h : i < ks.length) : ∃ g x, ks.drop i = (g, x) :: ks.drop (i + 1) ∧ ks.take (i + 1) = ks.take i ++ [(g, x)] :=
  ⟨ks[i].1, ks[i].2, List.drop_eq_getElem_cons h, List.take_succ_eq_append_getElem h⟩

set_option maxHeartbeats 400000 in
theorem itdrop_any (v u : Value) (p l : List Int) (k : Int) (w : World) (hr : Row w v p) (hn : p.length ≤ 1099511627776) (hs : Row w u l) (hm : l.length ≤ 1099511627776) :
    Calls Try.prog 34 #[v, u, .int .i64 k] w (GivesRowB (tdropL p l k) (tdropB p l k) w) := by
  have HV := Lib.hid (calls_below (ithinv_any v u p l w hr hn hs hm))
  cases hv : thinB p l
  · have HB := Lib.hid (show tdropB p l k = false by simp [tdropB, hv])
    rw [hv] at HV
    clear hv
    rw [tdropL_no HB.out, HB.out]
    go_enter Try.func34, Try.ntmps34
    go_wp2_with (go_at_call 18; refine HV.out.mono ?_; rintro e w' ⟨rfl, hb⟩)
    go_ret2
    exact GivesRowB.of (Own.nil _ _) hb
  · have h0 := (thinB_iff.1 hv).2.1
    have HDB := Lib.hid (show tdropB p l k = inB k 1 ((l.length : Int) - 2) by simp [tdropB, hv])
    rw [hv] at HV
    have HY := Lib.hid (@tdropL_yes p l k)
    have HNo := Lib.hid (@tdropL_no p l k)
    have HSt := Lib.hid (fun wr (hb : Below w.heap.size w wr) => strung_any u l wr (hs.below hb) hm)
    obtain ⟨a, cap, rfl⟩ := hs.shape
    obtain ⟨n, hN⟩ : ∃ n, n = l.length := ⟨_, rfl⟩
    rw [← hN] at hm h0 HV HDB HSt ⊢
    have HN := Lib.hid hN
    clear hr hs hv hN
    cases hk : inB k 1 ((n : Int) - 2)
    · rw [hk] at HDB
      rw [HNo.out HDB.out, HDB.out]
      rw [inB_false] at hk
      by_cases hk1 : k ≤ 0
      · go_enter Try.func34, Try.ntmps34
        go_wp2_with (go_at_call 18; refine HV.out.mono ?_; rintro e w' ⟨rfl, hb⟩)
        go_ret2
        exact GivesRowB.of (Own.nil _ _) hb
      · have hk2 : (n : Int) - 1 ≤ k := by omega
        clear hk
        go_enter Try.func34, Try.ntmps34
        go_wp2_with (go_at_call 18; refine HV.out.mono ?_; rintro e w' ⟨rfl, hb⟩)
        go_ret2
        exact GivesRowB.of (Own.nil _ _) hb
    · rw [hk] at HDB
      rw [HY.out HDB.out, HDB.out]
      rw [inB_iff] at hk
      obtain ⟨i, hi⟩ : ∃ i : Nat, k = i := ⟨k.toNat, by omega⟩
      subst hi
      rw [Int.toNat_natCast]
      obtain ⟨k1, k2⟩ := hk
      have hi1 : 1 ≤ i := by omega
      have hi2 : i + 2 ≤ n := by omega
      have c1 : ¬ (i : Int) ≤ 0 := by omega
      have c2 : ¬ (n : Int) - 1 ≤ (i : Int) := by omega
      go_enter Try.func34, Try.ntmps34
      go_wp2_with (first | (go_at_call 18; refine HV.out.mono ?_; rintro e w1 ⟨rfl, hb⟩; (have HB1 := Lib.hid hb); (have HS1 := hb.size); clear hb) | (go_at_call 56; refine (HSt.out _ HB1.out).mono ?_; rintro e w2 ⟨ks, t0, rfl, hks, hnd, hch, hb2⟩; (have HKs := Lib.hid hks); (have HCh := Lib.hid hch); (have HNd := Lib.hid hnd); (have HB2 := Lib.hid hb2); clear hks hch hb2 hnd))
      have HBw := Lib.hid (HB1.out.trans (HB2.out.mono HS1))
      have HCw := Lib.hid (HCh.out.mono HS1)
      have HLk := Lib.hid (show ks.length = n by rw [HN.out, ← HKs.out]; simp)
      clear HB2 HCh HB1 HV HSt
      go_loop [9, 30] (fun s j => ∃ (m : Nat) (t : Option Addr), m + 1 ≤ i ∧ j = .int .i64 m ∧ s = .pointer t ∧ Chain w2 w.heap.size (ks.drop m) (.pointer t)) (fun _ j => i - (intOf j).toNat)
      case atStart => exact ⟨0, t0, by omega, rfl, rfl, HCw.out⟩
      case round =>
        obtain ⟨m, t, hmi, rfl, rfl, hch⟩ := hrel
        by_cases hlt : m + 1 < i
        · obtain ⟨g, x, hdx, -⟩ := drop_ex ks m (by have := HLk.out; omega)
          rw [hdx] at hch
          clear hdx
          obtain ⟨h1, h2, t', hkn, h7⟩ := hch
          simp only [Value.pointer.injEq] at h1
          subst h1
          have d1 := hkn.cell1
          have H7 := Lib.hid h7
          clear hkn h7
          have hlt' : (m : Int) < (i : Int) - 1 := by omega
          go_wp2
          go_round
          case rel => exact ⟨m + 1, t', by omega, by go_num, rfl, H7.out⟩
          case measure => simp [intOf]; omega
        · have hme : i = m + 1 := by omega
          subst hme
          obtain ⟨ga, xa, hda, hta⟩ := drop_ex ks m (by have := HLk.out; omega)
          obtain ⟨gb, xb, hdb, -⟩ := drop_ex ks (m + 1) (by have := HLk.out; omega)
          have hd : ks.drop m = (ga, xa) :: (gb, xb) :: ks.drop (m + 2) := by rw [hda, hdb]
          have hsplit : ks = ks.take m ++ (ga, xa) :: (gb, xb) :: ks.drop (m + 2) := by rw [← hd, List.take_append_drop]
          have hnd := HNd.out
          have hcw := HCw.out
          rw [hsplit, List.map_append, List.map_cons, List.map_cons] at hnd
          rw [List.nodup_append] at hnd
          simp only [List.nodup_cons, List.mem_cons, not_or] at hnd
          obtain ⟨-, ⟨⟨-, hn1⟩, -⟩, hn2⟩ := hnd
          have hgA : ga ∉ (ks.take m).map Prod.fst := fun hmem => hn2 ga hmem ga (.inl rfl) rfl
          rw [hsplit] at hcw
          rw [hd] at hch
          obtain ⟨h1, h2, t', hkn, h3, h4, t2, hkn2, h5⟩ := hch
          simp only [Value.pointer.injEq] at h1 h3
          subst h1
          subst h3
          have HF := Lib.hid (Chain.splice h5 hn1 hcw hgA)
          have d1 := hkn.cell1
          have d2 := hkn2.cell1
          have d3 := hkn.frozen 1
          have d4 := hkn.lt
          have HR := Lib.hid (show (ks.take m ++ (ga, xa) :: ks.drop (m + 2)).map Prod.snd = l.take (m + 1) ++ l.drop (m + 1 + 1) by
            rw [← HKs.out, ← List.map_take, ← List.map_drop, ← List.map_append]
            congr 1
            rw [hta, List.append_assoc]
            rfl)
          have hlen : (ks.take m ++ (ga, xa) :: ks.drop (m + 2)).length ≤ 1099511627776 := by
            have := HLk.out
            simp; omega
          clear hkn hkn2 h5 hn1 hn2 hgA hcw hsplit hd hda hdb hta HNd HLk HCw HKs
          have hge : ¬ (m : Int) < ((m + 1 : Nat) : Int) - 1 := by omega
          have PT := Lib.hid (points_any _ _ _ _ HF.out hlen)
          obtain ⟨Z, hZ⟩ : ∃ Z, Z = (ks.take m ++ (ga, xa) :: ks.drop (m + 2)).map Prod.snd := ⟨_, rfl⟩
          rw [← hZ] at HR PT
          clear hZ hlen HF
          go_wp2_with (go_at_call 61; refine PT.out.mono ?_; rintro e w4 ⟨a4, cap4, rfl, ho4, hb4⟩)
          go_ret2
          rw [← HR.out]
          exact GivesRowB.of (ho4.mono (by have := HBw.out.size; simp; omega)) ((HBw.out.setCell h2 _).trans (hb4.mono (by have := HBw.out.size; simp; omega)))

end Go.Proofs.Ytonehpndbbojpaa
