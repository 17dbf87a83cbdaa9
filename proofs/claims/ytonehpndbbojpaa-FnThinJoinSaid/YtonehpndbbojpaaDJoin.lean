/- Contracts: the draw of ThinJoin. -/
import Derived.Test.YtonehpndbbojpaaDDraw
import Derived.Deep.RegionHeld3
import Derived.Maps.AppendAt
namespace Go.Proofs.Ytonehpndbbojpaa
open Go.RowKit

theorem results_tmp4 {fn : Func} {t u v x : Tmp} (h : fn.results = #[.tmp t, .tmp u, .tmp v, .tmp x]) (tmps : Array Value) (P : Program) (w : World) :
    (results fn tmps).run P w = .ok (.tuple #[tmps.getD t undef, tmps.getD u undef, tmps.getD v undef, tmps.getD x undef]) w := by
  simp [results, h]

/-- 'append(s, ys...)' at an operation: the source may be empty. -/
theorem appX_wp {w : World} {o : Oper} {a : Act} {K : Act → World → Prop} {Q : Exit → Act → World → Prop} (s x : Operand)
    (ho : o.op = .call { callee := .builtin .append, args := #[s, x], argTypes := #[23, 23] })
    (B : Nat) (sv : Value) (zs ys : List Int) (b off m c : Nat) (hs : a.eval s = sv) (hx : a.eval x = .slice (some ⟨b, off, none⟩) m c) (hm : ys.length = m)
    (hc : ∀ j, j < m → w.cell? ⟨b, off + j, none⟩ = some (.int .i64 (ys.getD j 0))) (hown : Own w B sv zs) (hB : B ≤ w.heap.size) (hlen : zs.length + m ≤ 1099511627776)
    (h : ∀ v' w', Own w' B v' (zs ++ ys) → w.grownBy w' sv.ownBlock → K (a.put o.dst v') w') :
    Oper.wp Try.prog o a w K Q := by
  obtain ⟨i0, hi, hz0, hz1, hz2⟩ := info_parts Try.infoInt
  obtain ⟨v', w', hr, h2, h3, -, -⟩ := run_append_own_at (P := Try.prog) w B 23 o.type 3 i0 (.int .i64 0) 1 8 Try.underlying23 hi hz0 hz1 hz2 rfl (by decide) sv zs.length (zs.map (Value.int .i64)) hown ⟨b, off, none⟩ m c (ys.map (Value.int .i64)) (by simp [hm]) (news_of hm hc) (one_of ys) (by unfold maxLen; omega) (by omega) hB
  unfold Oper.wp execOp
  simp only [ho, resolve, invoke, builtin, Sem.run_bind, Sem.run_pure, Result.andThen_ok, List.map_toArray, List.map_cons, List.map_nil, hs, hx, hr]
  refine h v' w' ?_ h3
  unfold Own
  rw [List.length_append, hm, List.map_append]
  exact h2

/-- Two profiles with points. -/
def GivesT4 (w : World) (e : Ending) (w' : World) : Prop :=
  ∃ p a q b v1 v2 v3 v4 c1 c2 c3 c4, e = .returned (.tuple #[.slice v1 p.length c1, .slice v2 a.length c2, .slice v3 q.length c3, .slice v4 b.length c4]) ∧ p.length ≤ 8 ∧ a.length ≤ 8 ∧ q.length ≤ 9 ∧ b.length ≤ 8 ∧
    Row w' (.slice v1 p.length c1) p ∧ Row w' (.slice v2 a.length c2) a ∧ Row w' (.slice v3 q.length c3) q ∧ Row w' (.slice v4 b.length c4) b ∧ q.length ≤ c3 ∧ Below w.heap.size w w'
theorem Own.cap {w : World} {B : Nat} {a : Option Addr} {n c : Nat} {zs : List Int} (h : Own w B (.slice a n c) zs) : n ≤ c := by
  have hl := h.len
  rcases h.2 with ⟨_, h0⟩ | ⟨g, cap, cur, hv, _, _, hc, _⟩
  · omega
  · simp only [Value.slice.injEq] at hv
    omega
theorem GivesT4.of {B : Nat} {w w' : World} {p a q b : List Int} {v1 v2 v3 v4 : Value} (h1 : p.length ≤ 8) (h2 : a.length ≤ 8) (h3 : q.length ≤ 9) (h4 : b.length ≤ 8) (r1 : Row w' v1 p) (r2 : Row w' v2 a) (r3 : Own w' B v3 q) (r4 : Row w' v4 b) (h : Below w.heap.size w w') :
    GivesT4 w (.returned (.tuple #[v1, v2, v3, v4])) w' := by
  obtain ⟨_, _, rfl⟩ := r1.shape
  obtain ⟨_, _, rfl⟩ := r2.shape
  obtain ⟨_, _, rfl⟩ := r3.shape
  have hc := r3.cap
  obtain ⟨_, _, rfl⟩ := r4.shape
  exact ⟨p, a, q, b, _, _, _, _, _, _, _, _, rfl, h1, h2, h3, h4, r1, r2, r3.row, r4, hc, h⟩

set_option maxHeartbeats 1000000 in
theorem dThinJoin_any (v : Value) (zs : List Int) (w : World) (hr : RowB w v zs) (hf : ∀ n ∈ zs, (Lit.int .u8 n).wf = true) :
    Calls Try.prog 30 #[v] w (GivesT4 w) := by
  have HO := Lib.hid (open_any v zs w hr hf)
  clear hr hf
  go_enter Try.func30, Try.ntmps30
  go_wp2_with fail
  refine HO.out.mono ?_
  rintro e w1 ⟨a, m, cap, hm, hb, rfl, hrd⟩
  have HB := Lib.hid hb
  have hs := hrd.2.2.size
  have D1 := Lib.hid (Drawn.refl hrd)
  clear hb hrd HO
  go_wp2_with fail
  refine (thin_any w a m cap w.heap.size 0 w1 _ HB.out hm D1.out (by omega)).mono ?_
  rintro e w2 ⟨ps1, ls1, av1, cv1, al1, cl1, rfl, hl1, hk1, ho, ⟨B1, hB1, hsu⟩, hi, hd⟩
  have hsz1 := D1.out.size
  have D2 := Lib.hid (D1.out.trans hd)
  clear hd D1
  have O1 := Lib.hid (ho.mono (Nat.le_trans hs hsz1))
  clear ho
  have S1 := Lib.hid hsu
  have I1 := Lib.hid (fun h => (hi h).mono (Nat.le_trans hs hsz1))
  clear hsu hi
  obtain ⟨n1, hN⟩ : ∃ n, n = ps1.length := ⟨_, rfl⟩
  rw [← hN] at O1 hl1 ⊢
  have HN1 := Lib.hid hN
  clear hN
  obtain ⟨m1, hN⟩ : ∃ n, n = ls1.length := ⟨_, rfl⟩
  rw [← hN] at S1 I1 hk1 ⊢
  have HM1 := Lib.hid hN
  clear hN
  go_wp2_with fail
  refine (thin_any w a m cap w.heap.size 100 w1 _ HB.out hm D2.out (by omega)).mono ?_
  rintro e w3 ⟨ps2, ls2, av2, cv2, al2, cl2, rfl, hl2, hk2, ho, ⟨B2, hB2, hsu⟩, hi, hd⟩
  replace O1 := Lib.hid (O1.out.over D2.out hd)
  replace S1 := Lib.hid (S1.out.over D2.out hd)
  replace I1 := Lib.hid (fun h => (I1.out h).over D2.out hd)
  have hsz2 := D2.out.size
  have D3 := Lib.hid (D2.out.trans hd)
  clear hd D2
  have O2 := Lib.hid (ho.mono (Nat.le_trans hs hsz2))
  clear ho
  have S2 := Lib.hid hsu
  have I2 := Lib.hid (fun h => (hi h).mono (Nat.le_trans hs hsz2))
  clear hsu hi
  obtain ⟨n2, hN⟩ : ∃ n, n = ps2.length := ⟨_, rfl⟩
  rw [← hN] at O2 hl2 ⊢
  have HN2 := Lib.hid hN
  clear hN
  obtain ⟨m2, hN⟩ : ∃ n, n = ls2.length := ⟨_, rfl⟩
  rw [← hN] at S2 I2 hk2 ⊢
  have HM2 := Lib.hid hN
  clear hN
  have h1 : n1 ≤ 8 := hl1
  have h2 : n2 ≤ 8 := hl2
  have HZ := Lib.hid (GivesT4.of (w := w) (by have := HN1.out; omega) (by have := HM1.out; omega) (by have := HN2.out; omega) (by have := HM2.out; omega) O1.out.row S1.out.row O2.out S2.out.row D3.out.bel)
  by_cases hp0 : n1 = 0
  · have e1 : decide ((0 : Int) < (n1 : Int)) = false := by simp; omega
    have e1b : decide (0 < n1) = false := by simp; omega
    clear hp0
    go_wp2
    (try simp only [Exit.inBlock, Exit.then])
    refine bodyPost_ret (results_tmp4 rfl _ _ _) rfl ?_
    exact HZ.out
  have e1 : decide ((0 : Int) < (n1 : Int)) = true := by simp; omega
  have e1b : decide (0 < n1) = true := by simp; omega
  by_cases hq0 : n2 = 0
  · have e2 : decide ((0 : Int) < (n2 : Int)) = false := by simp; omega
    have e2b : decide (0 < n2) = false := by simp; omega
    clear hp0 hq0
    go_wp2
    (try simp only [Exit.inBlock, Exit.then])
    refine bodyPost_ret (results_tmp4 rfl _ _ _) rfl ?_
    exact HZ.out
  have e2 : decide ((0 : Int) < (n2 : Int)) = true := by simp; omega
  have e2b : decide (0 < n2) = true := by simp; omega
  go_wp2_with fail
  refine (pickD w a m cap w.heap.size 200 8 w1 _ HB.out hm D3.out (by omega) (by omega) (by omega)).mono ?_
  rintro e w4 ⟨c4, hc4, rfl, hd⟩
  replace O1 := Lib.hid (O1.out.over D3.out hd)
  replace S1 := Lib.hid (S1.out.over D3.out hd)
  replace O2 := Lib.hid (O2.out.over D3.out hd)
  replace S2 := Lib.hid (S2.out.over D3.out hd)
  have D4 := Lib.hid (D3.out.trans hd)
  clear hd D3 HZ I1 I2
  have HZ := Lib.hid (GivesT4.of (w := w) (by have := HN1.out; omega) (by have := HM1.out; omega) (by have := HN2.out; omega) (by have := HM2.out; omega) O1.out.row S1.out.row O2.out S2.out.row D4.out.bel)
  by_cases hc0 : c4 = 0
  · have e3 : decide ((0 : Int) < (c4 : Int)) = false := by simp; omega
    have e3b : decide (0 < c4) = false := by simp; omega
    clear hp0 hq0 hc0
    go_wp2
    (try simp only [Exit.inBlock, Exit.then])
    refine bodyPost_ret (results_tmp4 rfl _ _ _) rfl ?_
    exact HZ.out
  have e3 : decide ((0 : Int) < (c4 : Int)) = true := by simp; omega
  have e3b : decide (0 < c4) = true := by simp; omega
  obtain ⟨g1, k1, e, -, hg1, -, -⟩ := O1.out.form (by have := HN1.out; omega)
  rw [← HN1.out] at e
  simp only [Value.slice.injEq, true_and] at e
  obtain ⟨rfl, rfl⟩ := e
  obtain ⟨g2, k2, e, -, hg2, hk2, -⟩ := O2.out.form (by have := HN2.out; omega)
  rw [← HN2.out] at e hk2
  simp only [Value.slice.injEq, true_and] at e
  obtain ⟨rfl, rfl⟩ := e
  have cp := O1.out.cellAt (n1 - 1) (by omega)
  have cq := Lib.hid (fun j hj => O2.out.cellAt j hj)
  obtain ⟨x, hx⟩ : ∃ x, x = ps1.getD (n1 - 1) 0 := ⟨_, rfl⟩
  rw [← hx] at cp
  clear hx
  have HB4 := D4.out.bel
  have hs4 := HB4.size
  have q1 : IntKind.i64.wrap ((n1 : Int) - 1) = (n1 : Int) - 1 := IntWalk.i64_in _ (by omega)
  have q2 : (0 : Int) ≤ (n1 : Int) - 1 := by omega
  have q3 : (n1 : Int) - 1 < (n1 : Int) := by omega
  have q4 : ((n1 : Int) - 1).toNat = n1 - 1 := by omega
  have q5 : (1 : Int) ≤ (n2 : Int) := by omega
  have q9 : (1 : Int) ≤ (n1 : Int) := by omega
  have q6 : (n2 : Int) ≤ (cv2 : Int) := by omega
  have q7 : (0 : Int) ≤ 1 := by omega
  have q8 : 1 ≤ n2 := by omega
  have HBd := Lib.hid (show Below w.heap.size w (w4.drewN 1) from below_drewN HB4 1)
  have HOl := Lib.hid (Own.lit1 (w4.drewN 1) w.heap.size x HBd.out.size)
  have HBl := Lib.hid (Below.alloc HBd.out HBd.out.size (.cells #[.int .i64 x] 3))
  have CQ := Lib.hid (show ∀ j, j < n2 - 1 → ((w4.drewN 1).alloc (.cells #[.int .i64 x] 3)).cell? ⟨g2, 1 + j, none⟩ = some (.int .i64 ((ps2.drop 1).getD j 0)) from fun j hj => by
    have h := (((O2.out.drewN 1).below (Below.alloc (Below.refl _ _) (Nat.le_refl _) (.cells #[.int .i64 x] 3)))).cellAt (1 + j) (by omega)
    rw [h]; simp [List.getD_eq_getElem?_getD, Nat.add_comm])
  have KR := Lib.hid (show ∀ v' wf, Own wf w.heap.size v' ([x] ++ ps2.drop 1) → ((w4.drewN 1).alloc (.cells #[.int .i64 x] 3)).grownBy wf (some (w4.drewN 1).heap.size) → GivesT4 w (.returned (.tuple #[.slice (some ⟨g1, 0, none⟩) n1 cv1, .slice al1 m1 cl1, v', .slice al2 m2 cl2])) wf from fun v' wf ho hg => by
    have hb : Below (w4.drewN 1).heap.size (w4.drewN 1) wf := (Below.alloc (Below.refl _ _) (Nat.le_refl _) _).trans (below_of_grown hg (by simp) (fun k e => by cases e; exact Nat.le_refl _))
    exact GivesT4.of (by have := HN1.out; omega) (by have := HM1.out; omega) (by have := HN2.out; simp; omega) (by have := HM2.out; omega) ((O1.out.drewN 1).below hb).row ((S1.out.row.drewN 1).below hb) ho ((S2.out.row.drewN 1).below hb) (HBd.out.trans (hb.mono HBd.out.size)))
  have hl2d := Lib.hid (show (ps2.drop 1).length = n2 - 1 by have := HN2.out; simp; omega)
  have CX := Lib.hid (show ((w4.drewN 1).alloc (.cells #[.int .i64 x] 3)).cell? ⟨g1, n1 - 1, none⟩ = some (.int .i64 x) from by
    have h := (Below.alloc (Below.refl (w4.drewN 1).heap.size (w4.drewN 1)) (Nat.le_refl _) (.cells #[.int .i64 x] 3)).cell (p := ⟨g1, n1 - 1, none⟩) hg1
    rw [h]; exact cp)
  clear hp0 hq0 hc0 HZ
  go_wp2
  refine wp_region_held_drew (S := fun w' => w'.cell? ⟨g1, n1 - 1, none⟩ = some (.int .i64 x)) (by kernel_rfl) (by exact cp) (fun hHeld => ?_)
  refine wpAnyH_take (i := 0) (oi := { dst := some 36, op := _, type := _, pos := _, after := _, guard := _ }) (v := ?_) rfl (by kernel_rfl) (by kernel_rfl) (by kernel_rfl) (fun _ _ _ h => h) (Or.inl ⟨by rfl, ?_⟩) (by assumption) ?_
  case refine_2 => ((intro w hSw; (try dsimp only at hSw); go_simp); try with_reducible rfl)
  try simp only [Act.put, List.setIfInBounds_toArray, List.set_cons_zero, List.set_cons_succ]
  refine wpAnyH_take (i := 1) (oi := { dst := some 37, op := _, type := _, pos := _, after := _, guard := _ }) (v := ?_) rfl (by kernel_rfl) (by kernel_rfl) (by kernel_rfl) (fun _ _ _ h => h) (Or.inl ⟨by rfl, ?_⟩) (by assumption) ?_
  case refine_2 => ((intro w hSw; (try dsimp only at hSw); go_simp); try with_reducible rfl)
  try simp only [Act.put, List.setIfInBounds_toArray, List.set_cons_zero, List.set_cons_succ]
  refine wpAnyH_take (i := 2) (oi := { dst := some 38, op := _, type := _, pos := _, after := _, guard := _ }) (v := ?_) rfl (by kernel_rfl) (by kernel_rfl) (by kernel_rfl) (fun _ _ _ h => h) (Or.inl ⟨by rfl, ?_⟩) (by assumption) ?_
  case refine_2 => ((intro w hSw; (try dsimp only at hSw); go_simp); try with_reducible rfl)
  try simp only [Act.put, List.setIfInBounds_toArray, List.set_cons_zero, List.set_cons_succ]
  refine wpAnyH_take (i := 3) (oi := { dst := some 39, op := _, type := _, pos := _, after := _, guard := _ }) (v := ?_) rfl (by kernel_rfl) (by kernel_rfl) (by kernel_rfl) (fun _ _ _ h => h) (Or.inl ⟨by rfl, ?_⟩) (by assumption) ?_
  case refine_2 => ((intro w hSw; (try dsimp only at hSw); go_simp); try with_reducible rfl)
  try simp only [Act.put, List.setIfInBounds_toArray, List.set_cons_zero, List.set_cons_succ]
  refine wpAnyH_take (i := 4) (oi := { dst := some 40, op := _, type := _, pos := _, after := _, guard := _ }) (v := ?_) rfl (by kernel_rfl) (by kernel_rfl) (by kernel_rfl) (fun _ _ _ h => h) (Or.inl ⟨by rfl, ?_⟩) (by assumption) ?_
  case refine_2 => ((intro w hSw; (try dsimp only at hSw); go_simp); try with_reducible rfl)
  try simp only [Act.put, List.setIfInBounds_toArray, List.set_cons_zero, List.set_cons_succ]
  refine wpAnyH_take (i := 5) (oi := { dst := some 41, op := _, type := _, pos := _, after := _, guard := _ }) (v := ?_) rfl (by kernel_rfl) (by kernel_rfl) (by kernel_rfl) (fun _ _ _ h => h) (Or.inl ⟨by rfl, ?_⟩) (by assumption) ?_
  case refine_2 => ((intro w hSw; (try dsimp only at hSw); go_simp); try with_reducible rfl)
  try simp only [Act.put, List.setIfInBounds_toArray, List.set_cons_zero, List.set_cons_succ]
  refine wpAnyH_take (i := 7) (oi := { dst := some 43, op := _, type := _, pos := _, after := _, guard := _ }) (v := ?_) rfl (by kernel_rfl) (by kernel_rfl) (by kernel_rfl) (fun _ _ _ h => h) (Or.inl ⟨by rfl, ?_⟩) (by assumption) ?_
  case refine_2 => ((intro w hSw; (try dsimp only at hSw); go_simp); try with_reducible rfl)
  try simp only [Act.put, List.setIfInBounds_toArray, List.set_cons_zero, List.set_cons_succ]
  by_cases hcap : cv2 = 1
  · subst hcap
    refine wpAnyH_take (i := 8) (oi := { dst := some 44, op := _, type := _, pos := _, after := _, guard := _ }) (v := ?_) rfl (by kernel_rfl) (by kernel_rfl) (by kernel_rfl) (fun _ _ _ h => h) (Or.inl ⟨by rfl, ?_⟩) (by assumption) ?_
    case refine_2 => ((intro w hSw; (try dsimp only at hSw); go_simp); try with_reducible rfl)
    try simp only [Act.put, List.setIfInBounds_toArray, List.set_cons_zero, List.set_cons_succ]
    refine wpAnyH_ready (rs := [6]) (by kernel_rfl) (by simp) ?_
    refine AllReadyH.cons (o := { dst := some 42, op := _, type := _, pos := _, after := _, guard := _ }) rfl (fun K hK => ?_) AllReadyH.nil
    go_simp
    refine hK.out _ _ CX.out (fun hHeld => ?_)
    clear hK K
    try simp only [Act.put, List.setIfInBounds_toArray, List.set_cons_zero, List.set_cons_succ]
    refine wpAnyH_ready (rs := [9]) (by kernel_rfl) (by simp) ?_
    refine AllReadyH.cons (o := { dst := some 45, op := _, type := _, pos := _, after := _, guard := _ }) rfl (fun K hK => ?_) AllReadyH.nil
    rw [if_pos (by rfl)]
    refine appX_wp (.tmp 42) (.tmp 44) rfl w.heap.size _ [x] (ps2.drop 1) g2 0 0 0 (by simp [Act.eval]) (by simp [Act.eval]) (by have := hl2d.out; omega) (fun j hj => by omega) HOl.out HBl.out.size (by simp) ?_
    intro v5 w5 ho5 hg5
    have HR := Lib.hid (KR.out v5 w5 ho5 hg5)
    refine hK.out _ _ ?_ (fun hHeld => ?_)
    · exact ((below_of_grown hg5 (by simp) (fun k e => by cases e; exact Nat.le_refl _) : Below (w4.drewN 1).heap.size _ w5).cell (p := ⟨g1, n1 - 1, none⟩) hg1).trans CX.out
    clear hK K ho5 hg5
    try simp only [Act.put, List.setIfInBounds_toArray, List.set_cons_zero, List.set_cons_succ]
    refine wpAnyH_take (i := 10) (oi := { dst := some 9, op := _, type := _, pos := _, after := _, guard := _ }) (v := ?_) rfl (by kernel_rfl) (by kernel_rfl) (by kernel_rfl) (fun _ _ _ h => h) (Or.inl ⟨by rfl, ?_⟩) (by assumption) ?_
    case refine_2 => ((intro w hSw; (try dsimp only at hSw); go_simp); try with_reducible rfl)
    try simp only [Act.put, List.setIfInBounds_toArray, List.set_cons_zero, List.set_cons_succ]
    refine wpAnyH_done (by kernel_rfl) ?_ _
    go_wp2
    (try simp only [Exit.inBlock, Exit.then])
    refine bodyPost_ret (results_tmp4 rfl _ _ _) rfl ?_
    exact HR.out
  · skip
    refine wpAnyH_take (i := 8) (oi := { dst := some 44, op := _, type := _, pos := _, after := _, guard := _ }) (v := ?_) rfl (by kernel_rfl) (by kernel_rfl) (by kernel_rfl) (fun _ _ _ h => h) (Or.inl ⟨by rfl, ?_⟩) (by assumption) ?_
    case refine_2 => ((intro w hSw; (try dsimp only at hSw); go_simp); try with_reducible rfl)
    try simp only [Act.put, List.setIfInBounds_toArray, List.set_cons_zero, List.set_cons_succ]
    refine wpAnyH_ready (rs := [6]) (by kernel_rfl) (by simp) ?_
    refine AllReadyH.cons (o := { dst := some 42, op := _, type := _, pos := _, after := _, guard := _ }) rfl (fun K hK => ?_) AllReadyH.nil
    go_simp
    refine hK.out _ _ CX.out (fun hHeld => ?_)
    clear hK K
    try simp only [Act.put, List.setIfInBounds_toArray, List.set_cons_zero, List.set_cons_succ]
    refine wpAnyH_ready (rs := [9]) (by kernel_rfl) (by simp) ?_
    refine AllReadyH.cons (o := { dst := some 45, op := _, type := _, pos := _, after := _, guard := _ }) rfl (fun K hK => ?_) AllReadyH.nil
    rw [if_pos (by rfl)]
    refine appX_wp (.tmp 42) (.tmp 44) rfl w.heap.size _ [x] (ps2.drop 1) g2 1 (n2 - 1) (cv2 - 1) (by simp [Act.eval]) (by simp [Act.eval]) hl2d.out CQ.out HOl.out HBl.out.size (by simp; omega) ?_
    intro v5 w5 ho5 hg5
    have HR := Lib.hid (KR.out v5 w5 ho5 hg5)
    refine hK.out _ _ ?_ (fun hHeld => ?_)
    · exact ((below_of_grown hg5 (by simp) (fun k e => by cases e; exact Nat.le_refl _) : Below (w4.drewN 1).heap.size _ w5).cell (p := ⟨g1, n1 - 1, none⟩) hg1).trans CX.out
    clear hK K ho5 hg5
    try simp only [Act.put, List.setIfInBounds_toArray, List.set_cons_zero, List.set_cons_succ]
    refine wpAnyH_take (i := 10) (oi := { dst := some 9, op := _, type := _, pos := _, after := _, guard := _ }) (v := ?_) rfl (by kernel_rfl) (by kernel_rfl) (by kernel_rfl) (fun _ _ _ h => h) (Or.inl ⟨by rfl, ?_⟩) (by assumption) ?_
    case refine_2 => ((intro w hSw; (try dsimp only at hSw); go_simp); try with_reducible rfl)
    try simp only [Act.put, List.setIfInBounds_toArray, List.set_cons_zero, List.set_cons_succ]
    refine wpAnyH_done (by kernel_rfl) ?_ _
    go_wp2
    (try simp only [Exit.inBlock, Exit.then])
    refine bodyPost_ret (results_tmp4 rfl _ _ _) rfl ?_
    exact HR.out
end Go.Proofs.Ytonehpndbbojpaa
