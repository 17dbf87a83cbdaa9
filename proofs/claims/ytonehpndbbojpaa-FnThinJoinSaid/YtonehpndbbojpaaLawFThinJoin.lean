/- Walk of the law FnThinJoin: joined lines keep both errors. -/
import Derived.Deep.RegionHeld3
import Derived.Test.YtonehpndbbojpaaDJoin
import Derived.Test.YtonehpndbbojpaaSame
import Derived.Test.YtonehpndbbojpaaTErr
import Derived.Test.YtonehpndbbojpaaTJoin2
import Derived.Test.YtonehpndbbojpaaPlainW
namespace Go.Proofs.Ytonehpndbbojpaa
open Go.RowKit

set_option maxRecDepth 100000 in
set_option maxHeartbeats 4000000 in
theorem fnThinJoin_walk (w : World) (v0 : Value) (z0 : List Int) (hr0 : RowB w v0 z0) (_hm0 : z0.length ≤ maxLen) (hf0 : ∀ n ∈ z0, (Lit.int .u8 n).wf = true) :
    Calls Try.prog 7 #[v0] w fun e w' => e = .returned (.bool true) ∧ Below w.heap.size w w' := by
  have HDr := Lib.hid (dThinJoin_any v0 z0 w hr0 hf0)
  obtain ⟨a0, cap0, rfl, -, -, -⟩ := hr0
  clear _hm0 hf0
  by_cases hbig : 1048576 < z0.length
  · go_enter Try.func7, Try.ntmps7
    go_wp2
    go_ret
    exact ⟨rfl, Below.refl _ _⟩
  go_enter Try.func7, Try.ntmps7
  have BT := Lib.hid (Below.refl w.heap.size w)
  go_wp2_with fail
  refine HDr.out.mono ?_
  rintro e w1 ⟨p, a, q, b, a_p, a_a, a_q, a_b, c_p, c_a, c_q, c_b, rfl, hlp, hla, hlq, hlb, hR_p, hR_a, hR_q, hR_b, hcq, hb⟩
  have R_p := Lib.hid hR_p
  have R_a := Lib.hid hR_a
  have R_q := Lib.hid hR_q
  have R_b := Lib.hid hR_b
  replace BT := Lib.hid (BT.out.trans (hb.mono BT.out.size))
  clear hR_p hR_a hR_q hR_b hb HDr
  go_wp2_with fail
  refine (itjoin_any _ _ _ _ p a q b _ R_p.out (by omega) R_a.out (by omega) R_q.out (by omega) R_b.out (by omega)).mono ?_
  rintro e w2 ⟨a_o, c_o, rfl, ho, hb⟩
  replace R_p := Lib.hid (R_p.out.below hb)
  replace R_a := Lib.hid (R_a.out.below hb)
  replace R_q := Lib.hid (R_q.out.below hb)
  replace R_b := Lib.hid (R_b.out.below hb)
  replace BT := Lib.hid (BT.out.trans (hb.mono BT.out.size))
  have R_o := Lib.hid ho.row
  clear ho
  clear hb
  go_wp2_with fail
  refine (stjoin_any _ _ _ _ p a q b _ R_p.out (by omega) R_a.out (by omega) R_q.out (by omega) R_b.out (by omega)).mono ?_
  rintro e w3 ⟨a_t, c_t, rfl, ho, hb⟩
  replace R_p := Lib.hid (R_p.out.below hb)
  replace R_a := Lib.hid (R_a.out.below hb)
  replace R_q := Lib.hid (R_q.out.below hb)
  replace R_b := Lib.hid (R_b.out.below hb)
  replace R_o := Lib.hid (R_o.out.below hb)
  replace BT := Lib.hid (BT.out.trans (hb.mono BT.out.size))
  have R_t := Lib.hid ho.row
  clear ho
  clear hb
  have hlo : (tjoinL p a q b).length ≤ 1099511627776 := by have := tjoinL_len p a q b trivial; omega
  have x1 : decide ((tjoinL p a q b) = (tjoinL p a q b)) = true := by simp
  cases hT : tjoinB p a q b
  · clear hT
    go_wp2_with fail
    refine (calls_below (same_any _ _ (tjoinL p a q b) (tjoinL p a q b) _ R_o.out R_t.out hlo hlo)).mono ?_
    rintro e w4 ⟨rfl, hb⟩
    replace R_p := Lib.hid (R_p.out.below hb)
    replace R_a := Lib.hid (R_a.out.below hb)
    replace R_q := Lib.hid (R_q.out.below hb)
    replace R_b := Lib.hid (R_b.out.below hb)
    replace R_o := Lib.hid (R_o.out.below hb)
    replace R_t := Lib.hid (R_t.out.below hb)
    replace BT := Lib.hid (BT.out.trans (hb.mono BT.out.size))
    clear hb
    go_wp2_with fail
    refine (calls_below (same_any _ _ (tjoinL p a q b) (tjoinL p a q b) _ R_o.out R_t.out hlo hlo)).mono ?_
    rintro e w5 ⟨rfl, hb⟩
    replace R_p := Lib.hid (R_p.out.below hb)
    replace R_a := Lib.hid (R_a.out.below hb)
    replace R_q := Lib.hid (R_q.out.below hb)
    replace R_b := Lib.hid (R_b.out.below hb)
    replace R_o := Lib.hid (R_o.out.below hb)
    replace R_t := Lib.hid (R_t.out.below hb)
    replace BT := Lib.hid (BT.out.trans (hb.mono BT.out.size))
    clear hb
    go_wp2
    go_ret
    exact ⟨rfl, BT.out⟩
  · have hT2 := tjoinB_iff.1 hT
    obtain ⟨h1, h2, h3, h4⟩ := hT2
    have HA := Lib.hid (thinB_iff.1 h1)
    have HB := Lib.hid (thinB_iff.1 h2)
    have HE := Lib.hid (show tjoinL p a q b = joinA p.length a b from tjoinL_yes hT)
    clear hT h1 h2
    go_wp2_with fail
    refine (calls_below (same_any _ _ (tjoinL p a q b) (tjoinL p a q b) _ R_o.out R_t.out hlo hlo)).mono ?_
    rintro e w6 ⟨rfl, hb⟩
    replace R_p := Lib.hid (R_p.out.below hb)
    replace R_a := Lib.hid (R_a.out.below hb)
    replace R_q := Lib.hid (R_q.out.below hb)
    replace R_b := Lib.hid (R_b.out.below hb)
    replace R_o := Lib.hid (R_o.out.below hb)
    replace R_t := Lib.hid (R_t.out.below hb)
    replace BT := Lib.hid (BT.out.trans (hb.mono BT.out.size))
    clear hb
    clear R_t
    rw [HE.out] at R_o hlo ⊢
    clear x1 HE
    have T1 := thinB_iff.2 (join_thin HA.out HB.out h3 h4)
    have E1 := join_err HA.out HB.out h3 h4
    have L1 := valid_len HA.out.1
    have L2 := valid_len HB.out.1
    have P1 := joinP_len (p := p) (q := q) (by omega)
    have A0 := HA.out.2.1
    have B0 := HB.out.2.1
    have P2 := Lib.hid (joinA_len (a := a) (b := b) p.length B0)
    clear h3 h4
    obtain ⟨J, hJ⟩ : ∃ J, J = joinP p q := ⟨_, rfl⟩
    rw [← hJ] at T1 E1 P1
    obtain ⟨O, hO⟩ : ∃ O, O = joinA p.length a b := ⟨_, rfl⟩
    rw [← hO] at T1 E1 P2 R_o hlo ⊢
    have HJ := Lib.hid (show J = p ++ q.drop 1 from hJ)
    clear hJ hO
    have P1 := Lib.hid P1
    have HJl : J.length ≤ 30 := by have := P1.out; omega
    obtain ⟨-, hcp⟩ := R_p.out.cells
    obtain ⟨-, hcc⟩ := R_q.out.cells
    obtain ⟨b1, o1, rfl, hp0⟩ := hcp 0 (by omega)
    obtain ⟨b3, o3, rfl, hq0⟩ := hcc 0 (by omega)
    have lt1 := World.block_lt_of_cell? _ _ hp0
    have lt3 := World.block_lt_of_cell? _ _ hq0
    have CP := Lib.hid (show ∀ j, j < p.length → w6.cell? ⟨b1, o1 + j, none⟩ = some (.int .i64 (p.getD j 0)) from fun j hj => by
      obtain ⟨b', o', e, h⟩ := hcp j hj
      simp only [Option.some.injEq, Addr.mk.injEq, and_true] at e
      obtain ⟨rfl, rfl⟩ := e
      exact h)
    have CQ := Lib.hid (show ∀ j, j < q.length → w6.cell? ⟨b3, o3 + j, none⟩ = some (.int .i64 (q.getD j 0)) from fun j hj => by
      obtain ⟨b', o', e, h⟩ := hcc j hj
      simp only [Option.some.injEq, Addr.mk.injEq, and_true] at e
      obtain ⟨rfl, rfl⟩ := e
      exact h)
    clear hcp hcc hp0 hq0
    obtain ⟨l1a, l1b⟩ := L1
    obtain ⟨l2a, l2b⟩ := L2
    have q5 : (1 : Int) ≤ (q.length : Int) := by omega
    have q6 : (q.length : Int) ≤ (c_q : Int) := by omega
    have q8 : 1 ≤ q.length := by omega
    have B1 := Lib.hid (below_drewN (Below.refl w6.heap.size w6) 1)
    have B2 := Lib.hid (Below.alloc B1.out B1.out.size (.cells #[] 3))
    have O2 := Lib.hid (Own.emptyLit (w6.drewN 1) w6.heap.size B1.out.size)
    have CP2 := Lib.hid (show ∀ j, j < p.length → ((w6.drewN 1).alloc (.cells #[] 3)).cell? ⟨b1, o1 + j, none⟩ = some (.int .i64 (p.getD j 0)) from fun j hj => (B2.out.cell (p := ⟨b1, o1 + j, none⟩) lt1).trans (CP.out j hj))
    have CQ2 := Lib.hid (show ∀ wx, Below w6.heap.size w6 wx → ∀ j, j < q.length - 1 → wx.cell? ⟨b3, o3 + 1 + j, none⟩ = some (.int .i64 ((q.drop 1).getD j 0)) from fun wx hb j hj => by
      have h := (hb.cell (p := ⟨b3, o3 + (1 + j), none⟩) lt3).trans (CQ.out (1 + j) (by omega))
      rw [show o3 + 1 + j = o3 + (1 + j) by omega, h]; simp [List.getD_eq_getElem?_getD, Nat.add_comm])
    have lq := Lib.hid (show (q.drop 1).length = q.length - 1 by simp)
    go_wp2
    refine wp_region_held_drew (S := fun _ => True) (by kernel_rfl) trivial (fun hHeld => ?_)
    refine wpAnyH_take (i := 1) (oi := { dst := some 60, op := _, type := _, pos := _, after := _, guard := _ }) (v := ?_) rfl (by kernel_rfl) (by kernel_rfl) (by kernel_rfl) (fun _ _ _ h => h) (Or.inl ⟨by rfl, ?_⟩) (by assumption) ?_
    case refine_2 => ((intro w hSw; (try dsimp only at hSw); go_simp); try with_reducible rfl)
    try simp only [Act.put, List.setIfInBounds_toArray, List.set_cons_zero, List.set_cons_succ]
    refine wpAnyH_take (i := 3) (oi := { dst := some 62, op := _, type := _, pos := _, after := _, guard := _ }) (v := ?_) rfl (by kernel_rfl) (by kernel_rfl) (by kernel_rfl) (fun _ _ _ h => h) (Or.inl ⟨by rfl, ?_⟩) (by assumption) ?_
    case refine_2 => ((intro w hSw; (try dsimp only at hSw); go_simp); try with_reducible rfl)
    try simp only [Act.put, List.setIfInBounds_toArray, List.set_cons_zero, List.set_cons_succ]
    by_cases hcap : c_q = 1
    · subst hcap
      refine wpAnyH_take (i := 4) (oi := { dst := some 63, op := _, type := _, pos := _, after := _, guard := _ }) (v := ?_) rfl (by kernel_rfl) (by kernel_rfl) (by kernel_rfl) (fun _ _ _ h => h) (Or.inl ⟨by rfl, ?_⟩) (by assumption) ?_
      case refine_2 => ((intro w hSw; (try dsimp only at hSw); go_simp); try with_reducible rfl)
      try simp only [Act.put, List.setIfInBounds_toArray, List.set_cons_zero, List.set_cons_succ]
      refine wpAnyH_ready (rs := [0]) (by kernel_rfl) (by simp) ?_
      refine AllReadyH.cons (o := { dst := some 59, op := _, type := _, pos := _, after := _, guard := _ }) rfl (fun K hK => ?_) AllReadyH.nil
      go_simp
      refine hK.out _ _ trivial (fun hHeld => ?_)
      clear hK K
      try simp only [Act.put, List.setIfInBounds_toArray, List.set_cons_zero, List.set_cons_succ]
      refine wpAnyH_ready (rs := [2]) (by kernel_rfl) (by simp) ?_
      refine AllReadyH.cons (o := { dst := some 61, op := _, type := _, pos := _, after := _, guard := _ }) rfl (fun K hK => ?_) AllReadyH.nil
      rw [if_pos (by rfl)]
      refine appX_wp (.tmp 59) (.tmp 60) rfl w6.heap.size _ [] p b1 o1 p.length c_p (by simp [Act.eval]) (by simp [Act.eval]) rfl CP2.out O2.out B2.out.size (by simp; omega) ?_
      intro v7 w7 ho7 hg7
      have H7 := Lib.hid (show Own w7 w6.heap.size v7 p from ho7)
      have B7 := Lib.hid (show Below w6.heap.size w6 w7 from below_own B2.out O2.out B2.out.size hg7)
      clear ho7 hg7
      refine hK.out _ _ trivial (fun hHeld => ?_)
      clear hK K
      try simp only [Act.put, List.setIfInBounds_toArray, List.set_cons_zero, List.set_cons_succ]
      refine wpAnyH_ready (rs := [5]) (by kernel_rfl) (by simp) ?_
      refine AllReadyH.cons (o := { dst := some 64, op := _, type := _, pos := _, after := _, guard := _ }) rfl (fun K hK => ?_) AllReadyH.nil
      rw [if_pos (by rfl)]
      refine appX_wp (.tmp 61) (.tmp 63) rfl w6.heap.size _ p (q.drop 1) b3 o3 0 0 (by simp [Act.eval]) (by simp [Act.eval]) (by have := lq.out; omega) (fun j hj => by omega) H7.out B7.out.size (by omega) ?_
      intro v8 w8 ho8 hg8
      have R_J := Lib.hid (show Row w8 v8 J by rw [HJ.out]; exact ho8.row)
      have B8 := Lib.hid (show Below w6.heap.size w6 w8 from below_own B7.out H7.out B7.out.size hg8)
      clear ho8 hg8
      refine hK.out _ _ trivial (fun hHeld => ?_)
      clear hK K
      try simp only [Act.put, List.setIfInBounds_toArray, List.set_cons_zero, List.set_cons_succ]
      refine wpAnyH_take (i := 6) (oi := { dst := some 11, op := _, type := _, pos := _, after := _, guard := _ }) (v := ?_) rfl (by kernel_rfl) (by kernel_rfl) (by kernel_rfl) (fun _ _ _ h => h) (Or.inl ⟨by rfl, ?_⟩) (by assumption) ?_
      case refine_2 => ((intro w hSw; (try dsimp only at hSw); go_simp); try with_reducible rfl)
      try simp only [Act.put, List.setIfInBounds_toArray, List.set_cons_zero, List.set_cons_succ]
      refine wpAnyH_done (by kernel_rfl) ?_ _
      replace R_p := Lib.hid (R_p.out.below B8.out)
      replace R_a := Lib.hid (R_a.out.below B8.out)
      replace R_q := Lib.hid (R_q.out.below B8.out)
      replace R_b := Lib.hid (R_b.out.below B8.out)
      replace R_o := Lib.hid (R_o.out.below B8.out)
      replace BT := Lib.hid (BT.out.trans (B8.out.mono BT.out.size))
      clear B1 B2 O2 CP2 CQ2 CP CQ H7 B7 B8 lq hHeld q5 q6 q8
      have I1 := Lib.hid (ithinv_any _ _ J O _ R_J.out (by omega) R_o.out hlo)
      rw [T1] at I1
      go_wp2_with fail
      refine (calls_below I1.out).mono ?_
      rintro e w7 ⟨rfl, hb⟩
      replace R_p := Lib.hid (R_p.out.below hb)
      replace R_a := Lib.hid (R_a.out.below hb)
      replace R_q := Lib.hid (R_q.out.below hb)
      replace R_b := Lib.hid (R_b.out.below hb)
      replace R_o := Lib.hid (R_o.out.below hb)
      replace R_J := Lib.hid (R_J.out.below hb)
      replace BT := Lib.hid (BT.out.trans (hb.mono BT.out.size))
      clear hb
      have I2 := Lib.hid (iterr_any _ _ J O _ R_J.out (by omega) R_o.out hlo)
      rw [E1] at I2
      go_wp2_with fail
      refine (I2.out).mono ?_
      rintro e w8 ⟨rfl, hb⟩
      replace R_p := Lib.hid (R_p.out.below hb)
      replace R_a := Lib.hid (R_a.out.below hb)
      replace R_q := Lib.hid (R_q.out.below hb)
      replace R_b := Lib.hid (R_b.out.below hb)
      replace R_o := Lib.hid (R_o.out.below hb)
      replace R_J := Lib.hid (R_J.out.below hb)
      replace BT := Lib.hid (BT.out.trans (hb.mono BT.out.size))
      clear hb
      go_wp2_with fail
      refine (iterr_any _ _ p a _ R_p.out (by omega) R_a.out (by omega)).mono ?_
      rintro e w9 ⟨rfl, hb⟩
      replace R_p := Lib.hid (R_p.out.below hb)
      replace R_a := Lib.hid (R_a.out.below hb)
      replace R_q := Lib.hid (R_q.out.below hb)
      replace R_b := Lib.hid (R_b.out.below hb)
      replace R_o := Lib.hid (R_o.out.below hb)
      replace R_J := Lib.hid (R_J.out.below hb)
      replace BT := Lib.hid (BT.out.trans (hb.mono BT.out.size))
      clear hb
      go_wp2_with fail
      refine (iterr_any _ _ q b _ R_q.out (by omega) R_b.out (by omega)).mono ?_
      rintro e w10 ⟨rfl, hb⟩
      replace R_p := Lib.hid (R_p.out.below hb)
      replace R_a := Lib.hid (R_a.out.below hb)
      replace R_q := Lib.hid (R_q.out.below hb)
      replace R_b := Lib.hid (R_b.out.below hb)
      replace R_o := Lib.hid (R_o.out.below hb)
      replace R_J := Lib.hid (R_J.out.below hb)
      replace BT := Lib.hid (BT.out.trans (hb.mono BT.out.size))
      clear hb
      obtain ⟨EA, hEA⟩ : ∃ E, E = thinE p a := ⟨_, rfl⟩
      obtain ⟨EB, hEB⟩ : ∃ E, E = thinE q b := ⟨_, rfl⟩
      rw [← hEA, ← hEB]
      clear hEA hEB
      have y1 : (max EA EB == max EA EB) = true := by simp
      have y2 : ((O.length : Int) == (a.length : Int) + (b.length : Int) - 1) = true := by have := P2.out; simp; omega
      go_wp2
      all_goals (go_ret; exact ⟨rfl, BT.out⟩)
    · skip
      refine wpAnyH_take (i := 4) (oi := { dst := some 63, op := _, type := _, pos := _, after := _, guard := _ }) (v := ?_) rfl (by kernel_rfl) (by kernel_rfl) (by kernel_rfl) (fun _ _ _ h => h) (Or.inl ⟨by rfl, ?_⟩) (by assumption) ?_
      case refine_2 => ((intro w hSw; (try dsimp only at hSw); go_simp); try with_reducible rfl)
      try simp only [Act.put, List.setIfInBounds_toArray, List.set_cons_zero, List.set_cons_succ]
      refine wpAnyH_ready (rs := [0]) (by kernel_rfl) (by simp) ?_
      refine AllReadyH.cons (o := { dst := some 59, op := _, type := _, pos := _, after := _, guard := _ }) rfl (fun K hK => ?_) AllReadyH.nil
      go_simp
      refine hK.out _ _ trivial (fun hHeld => ?_)
      clear hK K
      try simp only [Act.put, List.setIfInBounds_toArray, List.set_cons_zero, List.set_cons_succ]
      refine wpAnyH_ready (rs := [2]) (by kernel_rfl) (by simp) ?_
      refine AllReadyH.cons (o := { dst := some 61, op := _, type := _, pos := _, after := _, guard := _ }) rfl (fun K hK => ?_) AllReadyH.nil
      rw [if_pos (by rfl)]
      refine appX_wp (.tmp 59) (.tmp 60) rfl w6.heap.size _ [] p b1 o1 p.length c_p (by simp [Act.eval]) (by simp [Act.eval]) rfl CP2.out O2.out B2.out.size (by simp; omega) ?_
      intro v7 w7 ho7 hg7
      have H7 := Lib.hid (show Own w7 w6.heap.size v7 p from ho7)
      have B7 := Lib.hid (show Below w6.heap.size w6 w7 from below_own B2.out O2.out B2.out.size hg7)
      clear ho7 hg7
      refine hK.out _ _ trivial (fun hHeld => ?_)
      clear hK K
      try simp only [Act.put, List.setIfInBounds_toArray, List.set_cons_zero, List.set_cons_succ]
      refine wpAnyH_ready (rs := [5]) (by kernel_rfl) (by simp) ?_
      refine AllReadyH.cons (o := { dst := some 64, op := _, type := _, pos := _, after := _, guard := _ }) rfl (fun K hK => ?_) AllReadyH.nil
      rw [if_pos (by rfl)]
      refine appX_wp (.tmp 61) (.tmp 63) rfl w6.heap.size _ p (q.drop 1) b3 (o3 + 1) (q.length - 1) (c_q - 1) (by simp [Act.eval]) (by simp [Act.eval]) lq.out (CQ2.out _ B7.out) H7.out B7.out.size (by omega) ?_
      intro v8 w8 ho8 hg8
      have R_J := Lib.hid (show Row w8 v8 J by rw [HJ.out]; exact ho8.row)
      have B8 := Lib.hid (show Below w6.heap.size w6 w8 from below_own B7.out H7.out B7.out.size hg8)
      clear ho8 hg8
      refine hK.out _ _ trivial (fun hHeld => ?_)
      clear hK K
      try simp only [Act.put, List.setIfInBounds_toArray, List.set_cons_zero, List.set_cons_succ]
      refine wpAnyH_take (i := 6) (oi := { dst := some 11, op := _, type := _, pos := _, after := _, guard := _ }) (v := ?_) rfl (by kernel_rfl) (by kernel_rfl) (by kernel_rfl) (fun _ _ _ h => h) (Or.inl ⟨by rfl, ?_⟩) (by assumption) ?_
      case refine_2 => ((intro w hSw; (try dsimp only at hSw); go_simp); try with_reducible rfl)
      try simp only [Act.put, List.setIfInBounds_toArray, List.set_cons_zero, List.set_cons_succ]
      refine wpAnyH_done (by kernel_rfl) ?_ _
      replace R_p := Lib.hid (R_p.out.below B8.out)
      replace R_a := Lib.hid (R_a.out.below B8.out)
      replace R_q := Lib.hid (R_q.out.below B8.out)
      replace R_b := Lib.hid (R_b.out.below B8.out)
      replace R_o := Lib.hid (R_o.out.below B8.out)
      replace BT := Lib.hid (BT.out.trans (B8.out.mono BT.out.size))
      clear B1 B2 O2 CP2 CQ2 CP CQ H7 B7 B8 lq hHeld q5 q6 q8
      have I1 := Lib.hid (ithinv_any _ _ J O _ R_J.out (by omega) R_o.out hlo)
      rw [T1] at I1
      go_wp2_with fail
      refine (calls_below I1.out).mono ?_
      rintro e w11 ⟨rfl, hb⟩
      replace R_p := Lib.hid (R_p.out.below hb)
      replace R_a := Lib.hid (R_a.out.below hb)
      replace R_q := Lib.hid (R_q.out.below hb)
      replace R_b := Lib.hid (R_b.out.below hb)
      replace R_o := Lib.hid (R_o.out.below hb)
      replace R_J := Lib.hid (R_J.out.below hb)
      replace BT := Lib.hid (BT.out.trans (hb.mono BT.out.size))
      clear hb
      have I2 := Lib.hid (iterr_any _ _ J O _ R_J.out (by omega) R_o.out hlo)
      rw [E1] at I2
      go_wp2_with fail
      refine (I2.out).mono ?_
      rintro e w12 ⟨rfl, hb⟩
      replace R_p := Lib.hid (R_p.out.below hb)
      replace R_a := Lib.hid (R_a.out.below hb)
      replace R_q := Lib.hid (R_q.out.below hb)
      replace R_b := Lib.hid (R_b.out.below hb)
      replace R_o := Lib.hid (R_o.out.below hb)
      replace R_J := Lib.hid (R_J.out.below hb)
      replace BT := Lib.hid (BT.out.trans (hb.mono BT.out.size))
      clear hb
      go_wp2_with fail
      refine (iterr_any _ _ p a _ R_p.out (by omega) R_a.out (by omega)).mono ?_
      rintro e w13 ⟨rfl, hb⟩
      replace R_p := Lib.hid (R_p.out.below hb)
      replace R_a := Lib.hid (R_a.out.below hb)
      replace R_q := Lib.hid (R_q.out.below hb)
      replace R_b := Lib.hid (R_b.out.below hb)
      replace R_o := Lib.hid (R_o.out.below hb)
      replace R_J := Lib.hid (R_J.out.below hb)
      replace BT := Lib.hid (BT.out.trans (hb.mono BT.out.size))
      clear hb
      go_wp2_with fail
      refine (iterr_any _ _ q b _ R_q.out (by omega) R_b.out (by omega)).mono ?_
      rintro e w14 ⟨rfl, hb⟩
      replace R_p := Lib.hid (R_p.out.below hb)
      replace R_a := Lib.hid (R_a.out.below hb)
      replace R_q := Lib.hid (R_q.out.below hb)
      replace R_b := Lib.hid (R_b.out.below hb)
      replace R_o := Lib.hid (R_o.out.below hb)
      replace R_J := Lib.hid (R_J.out.below hb)
      replace BT := Lib.hid (BT.out.trans (hb.mono BT.out.size))
      clear hb
      obtain ⟨EA, hEA⟩ : ∃ E, E = thinE p a := ⟨_, rfl⟩
      obtain ⟨EB, hEB⟩ : ∃ E, E = thinE q b := ⟨_, rfl⟩
      rw [← hEA, ← hEB]
      clear hEA hEB
      have y1 : (max EA EB == max EA EB) = true := by simp
      have y2 : ((O.length : Int) == (a.length : Int) + (b.length : Int) - 1) = true := by have := P2.out; simp; omega
      go_wp2
      all_goals (go_ret; exact ⟨rfl, BT.out⟩)

end Go.Proofs.Ytonehpndbbojpaa
