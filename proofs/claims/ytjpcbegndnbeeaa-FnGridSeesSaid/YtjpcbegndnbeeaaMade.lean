/- Contracts: made of the program, at the functions of GridTurn, GridMirror, GridRaise. -/
import Derived.Test.YtjpcbegndnbeeaaFLists
import Derived.Test.YtjpcbegndnbeeaaFldAt
namespace Go.Proofs.Ytjpcbegndnbeeaa
open Go.RowKit
set_option linter.unusedVariables false

def gridF (hgt : Nat → Nat → Int) (R C : Nat) : List (List Int) := (List.range R).map (fun r => (List.range C).map (fun c => hgt r c))
theorem gridF_lists (hgt : Nat → Nat → Int) (R C : Nat) : listsL (fillF (fun i => hgt (i / C) (i % C)) (R * C) (R * C)) R C = gridF hgt R C := by
  unfold listsL gridF
  apply List.map_congr_left
  intro r hr
  apply List.map_congr_left
  intro c hc
  have hr' := List.mem_range.1 hr
  have hc' := List.mem_range.1 hc
  have hi := idx_lt hr' hc'
  rw [fillF_all]
  simp only [List.getD_eq_getElem?_getD, List.getElem?_map, List.getElem?_range hi, Option.map_some, Option.getD_some, (idx_div hc').1, (idx_div hc').2]
/-- The state of the loops of 'made'. -/
def MF (w : World) (Bf G n C N : Nat) (f : Nat → Int) (k : Nat) (wr : World) : Prop :=
  FldAt Bf n C (.slice (some ⟨G, 0, none⟩) N N) wr ∧ Own wr w.heap.size (.slice (some ⟨G, 0, none⟩) N N) (fillF f N k) ∧ Below w.heap.size w wr
theorem MF.below {w wr w' : World} {Bf G n C N k : Nat} {f : Nat → Int} (h : MF w Bf G n C N f k wr) (hb : Below wr.heap.size wr w') : MF w Bf G n C N f k w' :=
  ⟨h.1.below hb, h.2.1.below hb, h.2.2.trans (hb.mono h.2.2.size)⟩
theorem MF.drewN {w wr : World} {Bf G n C N k : Nat} {f : Nat → Int} (h : MF w Bf G n C N f k wr) (q : Nat) : MF w Bf G n C N f k (wr.drewN q) :=
  ⟨h.1, h.2.1.drewN q, below_drewN h.2.2 q⟩
theorem MF.store {w wr : World} {Bf G n C N k : Nat} {f : Nat → Int} (h : MF w Bf G n C N f k wr) (hG1 : w.heap.size ≤ G) (hG2 : G ≠ Bf) : MF w Bf G n C N f (k + 1) (wr.setCell ⟨G, k, none⟩ (.int .i64 (f k))) := by
  refine ⟨h.1.other hG2 _ _, ?_, h.2.2.setCell (p := ⟨G, k, none⟩) hG1 _⟩
  have := (h.2.1.store k (f k)).1
  rw [fillF_set] at this
  exact this
/-- What made gives. -/
def Made (hgt : Nat → Nat → Int) (R C : Nat) (w : World) (e : Ending) (w' : World) : Prop :=
  (((∀ r c, r < R → c < C → htB (hgt r c) = true) ∧ ∃ ad cp, e = .returned (.tuple #[.slice ad R cp, .bool true]) ∧ MRow w' (.slice ad R cp) (gridF hgt R C)) ∨
   ((∃ r c, r < R ∧ c < C ∧ htB (hgt r c) = false) ∧ e = .returned (.tuple #[.slice none 0 0, .bool false]))) ∧ Below w.heap.size w w'
theorem Made.yes {hgt : Nat → Nat → Int} {R C : Nat} {w w' : World} {ad : Option Addr} {cp : Nat} (h1 : ∀ r c, r < R → c < C → htB (hgt r c) = true) (h2 : MRow w' (.slice ad R cp) (gridF hgt R C)) (h3 : Below w.heap.size w w') : Made hgt R C w (.returned (.tuple #[.slice ad R cp, .bool true])) w' :=
  ⟨.inl ⟨h1, ad, cp, rfl, h2⟩, h3⟩
theorem Made.no {hgt : Nat → Nat → Int} {R C : Nat} {w w' : World} {r c : Nat} (hr : r < R) (hc : c < C) (h1 : htB (hgt r c) = false) (h3 : Below w.heap.size w w') : Made hgt R C w (.returned (.tuple #[.slice none 0 0, .bool false])) w' :=
  ⟨.inr ⟨⟨r, c, hr, hc, h1⟩, rfl⟩, h3⟩


set_option maxHeartbeats 2000000 in
theorem madeTurn_any (Rn C : Nat) (Bf : Nat) (hgt : Nat → Nat → Int) (w : World) (h1 : 1 ≤ Rn) (h2 : Rn ≤ 7) (h3 : 1 ≤ C) (h4 : C ≤ 7)
    (HC0 : ∀ wx r c, Below w.heap.size w wx → r < Rn → c < C → Calls Try.prog 42 #[.int .i64 (r : Nat), .int .i64 (c : Nat), .pointer (some ⟨Bf, 0, none⟩)] wx fun e w' => e = .returned (.int .i64 (hgt r c)) ∧ Below wx.heap.size wx w') :
    Calls Try.prog 39 #[.int .i64 Rn, .int .i64 C, .func (.func 42) #[] #[.pointer (some ⟨Bf, 0, none⟩)]] w (Made hgt Rn C w) := by
  obtain ⟨N, hN⟩ : ∃ N, N = Rn * C := ⟨_, rfl⟩
  have hN49 : N ≤ 49 := by rw [hN]; exact Nat.mul_le_mul h2 h4
  have HBl := Lib.hid (fun wx => blank_any Rn C N wx hN (by omega))
  have HC := Lib.hid HC0
  have HN := Lib.hid hN
  clear hN HC0
  go_enter Try.func39, Try.ntmps39
  go_wp2_with fail
  with_reducible refine (HBl.out _).mono ?_
  rintro e w1 ⟨G, rfl, hG1, ho, hb⟩
  have hG2 := (ho.lt G rfl).2
  have HMF := Lib.hid (show MF w w1.heap.size G Rn C N (fun i => hgt (i / C) (i % C)) 0 (w1.alloc (.cells #[.int .i64 Rn, .int .i64 C, .slice (some ⟨G, 0, none⟩) N N] 47)) from
    ⟨FldAt.new w1 Rn C _, by rw [fillF_zero]; exact ho.below (Below.alloc (Below.refl _ _) (Nat.le_refl _) _), hb.trans ((Below.alloc (Below.refl w1.heap.size w1) (Nat.le_refl _) _).mono hb.size)⟩)
  clear hb ho
  go_wp2
  go_loopw [30] (fun i wr => ∃ r : Nat, r ≤ Rn ∧ i = .int .i64 r ∧ (∀ r' c', r' < r → c' < C → htB (hgt r' c') = true) ∧ MF w w1.heap.size G Rn C N (fun i => hgt (i / C) (i % C)) (r * C) wr) (fun i _ => Rn - (intOf i).toNat)
  case atStart => exact ⟨0, Nat.zero_le _, rfl, fun r' c' h => by omega, by rw [Nat.zero_mul]; exact HMF.out⟩
  case round =>
    obtain ⟨r, hr, rfl, hok, hmf⟩ := hrel
    clear HMF
    have HOk := Lib.hid hok
    have HMF := Lib.hid hmf
    clear hok hmf
    by_cases hlt : r < Rn
    · obtain ⟨P, hP⟩ : ∃ P, P = r * C := ⟨_, rfl⟩
      have hPN : P + C ≤ N := by
        have h := Nat.mul_le_mul_right C (show r + 1 ≤ Rn by omega)
        rw [Nat.add_mul, ← hP] at h
        rw [HN.out]; omega
      have HP := Lib.hid hP
      rw [← hP] at HMF
      clear hP
      go_wp2
      go_loopw [34] (fun i ws => ∃ c : Nat, c ≤ C ∧ i = .int .i64 c ∧ (∀ c', c' < c → htB (hgt r c') = true) ∧ MF w w1.heap.size G Rn C N (fun i => hgt (i / C) (i % C)) (P + c) ws) (fun i _ => C - (intOf i).toNat)
      case atStart => exact ⟨0, Nat.zero_le _, rfl, fun c' h => by omega, HMF.out⟩
      case round =>
        obtain ⟨c, hc, rfl, hht, hfs⟩ := hrel
        clear HMF
        have HHt := Lib.hid hht
        have HFs := Lib.hid hfs
        clear hht hfs
        by_cases hltc : c < C
        · have HCc := Lib.hid (HC.out wr r c HFs.out.2.2 hlt hltc)
          obtain ⟨x, hx⟩ : ∃ x, x = hgt r c := ⟨_, rfl⟩
          rw [← hx] at HCc
          have HX := Lib.hid (show (fun i => hgt (i / C) (i % C)) (P + c) = x from by
            show hgt ((P + c) / C) ((P + c) % C) = x
            rw [HP.out, (idx_div hltc).1, (idx_div hltc).2, hx])
          have HX2 := Lib.hid hx
          clear hx
          go_wp2_with fail
          with_reducible refine HCc.out.mono ?_
          rintro e w4 ⟨rfl, hb⟩
          have HF4 := Lib.hid (HFs.out.below hb)
          clear hb HFs HCc
          have HH := Lib.hid (fun wx => height_any x wx)
          by_cases hht : htB x = true
          · have HHx := Lib.hid (show htB (hgt r c) = true by rw [← HX2.out]; exact hht)
            rw [hht] at HH
            clear hht
            go_wp2_with fail
            with_reducible refine (HH.out _).mono ?_
            rintro e w' ⟨rfl, rfl⟩
            go_wp2
            obtain ⟨-, g1, g2, g3⟩ := HF4.out.1.cells
            have HIx := Lib.hid (fun wx => index_any Rn C r c P (some ⟨G, 0, none⟩) N N wx HP.out (by omega))
            have q1 : (0 : Int) ≤ (P : Int) + (c : Int) := by omega
            have q2 : (P : Int) + (c : Int) < (N : Int) := by omega
            have q3 : ((P : Int) + (c : Int)).toNat = P + c := by omega
            refine wp_region_held_drew (S := fun wx => wx.cell? ⟨w1.heap.size, 0, none⟩ = some (.int .i64 Rn) ∧ wx.cell? ⟨w1.heap.size, 1, none⟩ = some (.int .i64 C) ∧ wx.cell? ⟨w1.heap.size, 2, none⟩ = some (.slice (some ⟨G, 0, none⟩) N N)) (by kernel_rfl) (⟨g1, g2, g3⟩) (fun hHeld => ?_)
            refine wpAnyH_take (i := 0) (oi := { dst := some 44, op := _, type := _, pos := _, after := _, guard := _ }) (v := ?_) rfl (by kernel_rfl) (by kernel_rfl) (by kernel_rfl) (fun _ _ _ h => h) (Or.inl ⟨by rfl, ?_⟩) (by assumption) ?_
            case refine_2 => ((intro w hSw; (try dsimp only at hSw); go_simp); try with_reducible rfl)
            try simp only [Act.put, List.setIfInBounds_toArray, List.set_cons_zero, List.set_cons_succ]
            refine wpAnyH_take (i := 1) (oi := { dst := some 45, op := _, type := _, pos := _, after := _, guard := _ }) (v := ?_) rfl (by kernel_rfl) (by kernel_rfl) (by kernel_rfl) (fun _ _ _ h => h) (Or.inl ⟨by rfl, ?_⟩) (by assumption) ?_
            case refine_2 => ((intro w hSw; (try dsimp only at hSw); go_simp); try with_reducible rfl)
            try simp only [Act.put, List.setIfInBounds_toArray, List.set_cons_zero, List.set_cons_succ]
            refine wpAnyH_take (i := 2) (oi := { dst := some 46, op := _, type := _, pos := _, after := _, guard := _ }) (v := ?_) rfl (by kernel_rfl) (by kernel_rfl) (by kernel_rfl) (fun _ _ _ h => h) (Or.inl ⟨by rfl, ?_⟩) (by assumption) ?_
            case refine_2 => ((intro w hSw; (try dsimp only at hSw); go_simp); try with_reducible rfl)
            try simp only [Act.put, List.setIfInBounds_toArray, List.set_cons_zero, List.set_cons_succ]
            refine wpAnyH_take (i := 3) (oi := { dst := some 47, op := _, type := _, pos := _, after := _, guard := _ }) (v := ?_) rfl (by kernel_rfl) (by kernel_rfl) (by kernel_rfl) (fun _ _ _ h => h) (Or.inl ⟨by rfl, ?_⟩) (by assumption) ?_
            case refine_2 => ((intro w hSw; (try dsimp only at hSw); go_simp); try with_reducible rfl)
            try simp only [Act.put, List.setIfInBounds_toArray, List.set_cons_zero, List.set_cons_succ]
            refine wpAnyH_take (i := 4) (oi := { dst := some 48, op := _, type := _, pos := _, after := _, guard := _ }) (v := ?_) rfl (by kernel_rfl) (by kernel_rfl) (by kernel_rfl) (fun _ _ _ h => h) (Or.inl ⟨by rfl, ?_⟩) (by assumption) ?_
            case refine_2 => ((intro w hSw; (try dsimp only at hSw); go_simp); try with_reducible rfl)
            try simp only [Act.put, List.setIfInBounds_toArray, List.set_cons_zero, List.set_cons_succ]
            refine wpAnyH_take (i := 6) (oi := { dst := some 50, op := _, type := _, pos := _, after := _, guard := _ }) (v := ?_) rfl (by kernel_rfl) (by kernel_rfl) (by kernel_rfl) (fun _ _ _ h => h) (Or.inl ⟨by rfl, ?_⟩) (by assumption) ?_
            case refine_2 => ((intro w hSw; (try dsimp only at hSw); go_simp); try with_reducible rfl)
            try simp only [Act.put, List.setIfInBounds_toArray, List.set_cons_zero, List.set_cons_succ]
            have hb5 := below_drewN (Below.alloc (Below.refl w4.heap.size w4) (Nat.le_refl _) (.cells #[.int .i64 Rn, .int .i64 C, .slice (some ⟨G, 0, none⟩) N N] 47)) 1
            refine wpAnyH_ready (rs := [5]) (by kernel_rfl) (by simp) ?_
            refine AllReadyH.cons (o := { dst := some 49, op := _, type := _, pos := _, after := _, guard := _ }) rfl (fun K hK => ?_) AllReadyH.nil
            go_simp
            go_at_call 48
            refine (HIx.out _).mono ?_
            rintro e wc ⟨rfl, rfl⟩
            refine hK.out _ _ (((HF4.out.below hb5).1.cells.2)) (fun hHeld => ?_)
            clear hK K
            try simp only [Act.put, List.setIfInBounds_toArray, List.set_cons_zero, List.set_cons_succ]
            refine wpAnyH_take (i := 7) (oi := { dst := some 51, op := _, type := _, pos := _, after := _, guard := _ }) (v := ?_) rfl (by kernel_rfl) (by kernel_rfl) (by kernel_rfl) (fun _ _ _ h => h) (Or.inl ⟨by rfl, ?_⟩) (by assumption) ?_
            case refine_2 => ((intro w hSw; (try dsimp only at hSw); go_simp); try with_reducible rfl)
            try simp only [Act.put, List.setIfInBounds_toArray, List.set_cons_zero, List.set_cons_succ]
            have hb4 := Below.alloc (Below.refl w4.heap.size w4) (Nat.le_refl _) (.cells #[.int .i64 Rn, .int .i64 C, .slice (some ⟨G, 0, none⟩) N N] 47)
            have HS := Lib.hid (((HF4.out.below hb4).store hG1 (by omega)).drewN 1)
            rw [HX.out] at HS
            have hold := (HF4.out.below hb4).2.1.cellAt (P + c) (by omega)
            have hfr := (HF4.out.below hb4).2.1.frozenAt (P + c)
            clear hb4
            refine wpAnyH_ready (rs := [8]) (by kernel_rfl) (by simp) ?_
            refine AllReadyH.cons (o := { dst := none, op := _, type := _, pos := _, after := _, guard := _ }) rfl (fun K hK => ?_) AllReadyH.nil
            go_simp
            refine hK.out _ _ ((HS.out.1.cells.2)) (fun hHeld => ?_)
            clear hK K
            try simp only [Act.put, List.setIfInBounds_toArray, List.set_cons_zero, List.set_cons_succ]
            refine wpAnyH_done (by kernel_rfl) ?_ _
            clear hHeld hold hfr g1 g2 g3
            go_wp2
            go_roundw
            case rel =>
              refine ⟨c + 1, by omega, by go_num, fun j hj => ?_, HS.out⟩
              by_cases e : j = c
              · subst e; exact HHx.out
              · exact HHt.out j (by omega)
            case measure => simp [intOf]; omega
          · have hht' : htB x = false := by simpa using hht
            have HHx := Lib.hid (show htB (hgt r c) = false by rw [← HX2.out]; exact hht')
            rw [hht'] at HH
            clear hht hht'
            go_wp2_with fail
            with_reducible refine (HH.out _).mono ?_
            rintro e w' ⟨rfl, rfl⟩
            go_wp2
            go_ret2
            exact Made.no hlt hltc HHx.out HF4.out.2.2
        · have hce : c = C := by omega
          have HF2 := Lib.hid (show MF w w1.heap.size G Rn C N (fun i => hgt (i / C) (i % C)) ((r + 1) * C) wr from by have q := HFs.out; rw [hce] at q; rw [Nat.add_mul, Nat.one_mul, ← HP.out]; exact q)
          have HHt2 := Lib.hid (show ∀ c', c' < C → htB (hgt r c') = true from fun c' h => HHt.out c' (by omega))
          clear hce
          go_wp2
          go_roundw
          case rel =>
            refine ⟨r + 1, by omega, by go_num, fun r' c' h1 h2 => ?_, HF2.out⟩
            by_cases e : r' = r
            · subst e; exact HHt2.out c' h2
            · exact HOk.out r' c' (by omega) h2
          case measure => simp [intOf]; omega
    · have hke : r = Rn := by omega
      have HOk2 := Lib.hid (show ∀ r' c', r' < Rn → c' < C → htB (hgt r' c') = true from fun r' c' h1 h2 => HOk.out r' c' (by omega) h2)
      have HL := Lib.hid (show Calls Try.prog 54 #[.agg #[.int .i64 Rn, .int .i64 C, .slice (some ⟨G, 0, none⟩) N N]] wr fun e w' => ∃ ad c, e = .returned (.slice ad Rn c) ∧ MRow w' (.slice ad Rn c) (gridF hgt Rn C) ∧ Below wr.heap.size wr w' from by
        have q := HMF.out.2.1
        rw [hke, ← HN.out] at q
        have := lists_any Rn C N G _ wr q.row HN.out h3 h4 h2
        rw [HN.out, gridF_lists] at this
        rw [HN.out]
        exact this)
      obtain ⟨-, g1, g2, g3⟩ := HMF.out.1.cells
      have HB := Lib.hid HMF.out.2.2
      clear hke HMF
      go_wp2_with fail
      with_reducible refine HL.out.mono ?_
      rintro e w4 ⟨ad, cc, rfl, hm, hb⟩
      have HM := Lib.hid hm
      have HB4 := Lib.hid (HB.out.trans (hb.mono HB.out.size))
      clear hm hb
      go_wp2
      go_ret2
      exact Made.yes HOk2.out HM.out HB4.out


set_option maxHeartbeats 2000000 in
theorem madeMirror_any (Rn C : Nat) (Bf : Nat) (hgt : Nat → Nat → Int) (w : World) (h1 : 1 ≤ Rn) (h2 : Rn ≤ 7) (h3 : 1 ≤ C) (h4 : C ≤ 7)
    (HC0 : ∀ wx r c, Below w.heap.size w wx → r < Rn → c < C → Calls Try.prog 40 #[.int .i64 (r : Nat), .int .i64 (c : Nat), .pointer (some ⟨Bf, 0, none⟩)] wx fun e w' => e = .returned (.int .i64 (hgt r c)) ∧ Below wx.heap.size wx w') :
    Calls Try.prog 39 #[.int .i64 Rn, .int .i64 C, .func (.func 40) #[] #[.pointer (some ⟨Bf, 0, none⟩)]] w (Made hgt Rn C w) := by
  obtain ⟨N, hN⟩ : ∃ N, N = Rn * C := ⟨_, rfl⟩
  have hN49 : N ≤ 49 := by rw [hN]; exact Nat.mul_le_mul h2 h4
  have HBl := Lib.hid (fun wx => blank_any Rn C N wx hN (by omega))
  have HC := Lib.hid HC0
  have HN := Lib.hid hN
  clear hN HC0
  go_enter Try.func39, Try.ntmps39
  go_wp2_with fail
  with_reducible refine (HBl.out _).mono ?_
  rintro e w1 ⟨G, rfl, hG1, ho, hb⟩
  have hG2 := (ho.lt G rfl).2
  have HMF := Lib.hid (show MF w w1.heap.size G Rn C N (fun i => hgt (i / C) (i % C)) 0 (w1.alloc (.cells #[.int .i64 Rn, .int .i64 C, .slice (some ⟨G, 0, none⟩) N N] 47)) from
    ⟨FldAt.new w1 Rn C _, by rw [fillF_zero]; exact ho.below (Below.alloc (Below.refl _ _) (Nat.le_refl _) _), hb.trans ((Below.alloc (Below.refl w1.heap.size w1) (Nat.le_refl _) _).mono hb.size)⟩)
  clear hb ho
  go_wp2
  go_loopw [30] (fun i wr => ∃ r : Nat, r ≤ Rn ∧ i = .int .i64 r ∧ (∀ r' c', r' < r → c' < C → htB (hgt r' c') = true) ∧ MF w w1.heap.size G Rn C N (fun i => hgt (i / C) (i % C)) (r * C) wr) (fun i _ => Rn - (intOf i).toNat)
  case atStart => exact ⟨0, Nat.zero_le _, rfl, fun r' c' h => by omega, by rw [Nat.zero_mul]; exact HMF.out⟩
  case round =>
    obtain ⟨r, hr, rfl, hok, hmf⟩ := hrel
    clear HMF
    have HOk := Lib.hid hok
    have HMF := Lib.hid hmf
    clear hok hmf
    by_cases hlt : r < Rn
    · obtain ⟨P, hP⟩ : ∃ P, P = r * C := ⟨_, rfl⟩
      have hPN : P + C ≤ N := by
        have h := Nat.mul_le_mul_right C (show r + 1 ≤ Rn by omega)
        rw [Nat.add_mul, ← hP] at h
        rw [HN.out]; omega
      have HP := Lib.hid hP
      rw [← hP] at HMF
      clear hP
      go_wp2
      go_loopw [34] (fun i ws => ∃ c : Nat, c ≤ C ∧ i = .int .i64 c ∧ (∀ c', c' < c → htB (hgt r c') = true) ∧ MF w w1.heap.size G Rn C N (fun i => hgt (i / C) (i % C)) (P + c) ws) (fun i _ => C - (intOf i).toNat)
      case atStart => exact ⟨0, Nat.zero_le _, rfl, fun c' h => by omega, HMF.out⟩
      case round =>
        obtain ⟨c, hc, rfl, hht, hfs⟩ := hrel
        clear HMF
        have HHt := Lib.hid hht
        have HFs := Lib.hid hfs
        clear hht hfs
        by_cases hltc : c < C
        · have HCc := Lib.hid (HC.out wr r c HFs.out.2.2 hlt hltc)
          obtain ⟨x, hx⟩ : ∃ x, x = hgt r c := ⟨_, rfl⟩
          rw [← hx] at HCc
          have HX := Lib.hid (show (fun i => hgt (i / C) (i % C)) (P + c) = x from by
            show hgt ((P + c) / C) ((P + c) % C) = x
            rw [HP.out, (idx_div hltc).1, (idx_div hltc).2, hx])
          have HX2 := Lib.hid hx
          clear hx
          go_wp2_with fail
          with_reducible refine HCc.out.mono ?_
          rintro e w4 ⟨rfl, hb⟩
          have HF4 := Lib.hid (HFs.out.below hb)
          clear hb HFs HCc
          have HH := Lib.hid (fun wx => height_any x wx)
          by_cases hht : htB x = true
          · have HHx := Lib.hid (show htB (hgt r c) = true by rw [← HX2.out]; exact hht)
            rw [hht] at HH
            clear hht
            go_wp2_with fail
            with_reducible refine (HH.out _).mono ?_
            rintro e w' ⟨rfl, rfl⟩
            go_wp2
            obtain ⟨-, g1, g2, g3⟩ := HF4.out.1.cells
            have HIx := Lib.hid (fun wx => index_any Rn C r c P (some ⟨G, 0, none⟩) N N wx HP.out (by omega))
            have q1 : (0 : Int) ≤ (P : Int) + (c : Int) := by omega
            have q2 : (P : Int) + (c : Int) < (N : Int) := by omega
            have q3 : ((P : Int) + (c : Int)).toNat = P + c := by omega
            refine wp_region_held_drew (S := fun wx => wx.cell? ⟨w1.heap.size, 0, none⟩ = some (.int .i64 Rn) ∧ wx.cell? ⟨w1.heap.size, 1, none⟩ = some (.int .i64 C) ∧ wx.cell? ⟨w1.heap.size, 2, none⟩ = some (.slice (some ⟨G, 0, none⟩) N N)) (by kernel_rfl) (⟨g1, g2, g3⟩) (fun hHeld => ?_)
            refine wpAnyH_take (i := 0) (oi := { dst := some 44, op := _, type := _, pos := _, after := _, guard := _ }) (v := ?_) rfl (by kernel_rfl) (by kernel_rfl) (by kernel_rfl) (fun _ _ _ h => h) (Or.inl ⟨by rfl, ?_⟩) (by assumption) ?_
            case refine_2 => ((intro w hSw; (try dsimp only at hSw); go_simp); try with_reducible rfl)
            try simp only [Act.put, List.setIfInBounds_toArray, List.set_cons_zero, List.set_cons_succ]
            refine wpAnyH_take (i := 1) (oi := { dst := some 45, op := _, type := _, pos := _, after := _, guard := _ }) (v := ?_) rfl (by kernel_rfl) (by kernel_rfl) (by kernel_rfl) (fun _ _ _ h => h) (Or.inl ⟨by rfl, ?_⟩) (by assumption) ?_
            case refine_2 => ((intro w hSw; (try dsimp only at hSw); go_simp); try with_reducible rfl)
            try simp only [Act.put, List.setIfInBounds_toArray, List.set_cons_zero, List.set_cons_succ]
            refine wpAnyH_take (i := 2) (oi := { dst := some 46, op := _, type := _, pos := _, after := _, guard := _ }) (v := ?_) rfl (by kernel_rfl) (by kernel_rfl) (by kernel_rfl) (fun _ _ _ h => h) (Or.inl ⟨by rfl, ?_⟩) (by assumption) ?_
            case refine_2 => ((intro w hSw; (try dsimp only at hSw); go_simp); try with_reducible rfl)
            try simp only [Act.put, List.setIfInBounds_toArray, List.set_cons_zero, List.set_cons_succ]
            refine wpAnyH_take (i := 3) (oi := { dst := some 47, op := _, type := _, pos := _, after := _, guard := _ }) (v := ?_) rfl (by kernel_rfl) (by kernel_rfl) (by kernel_rfl) (fun _ _ _ h => h) (Or.inl ⟨by rfl, ?_⟩) (by assumption) ?_
            case refine_2 => ((intro w hSw; (try dsimp only at hSw); go_simp); try with_reducible rfl)
            try simp only [Act.put, List.setIfInBounds_toArray, List.set_cons_zero, List.set_cons_succ]
            refine wpAnyH_take (i := 4) (oi := { dst := some 48, op := _, type := _, pos := _, after := _, guard := _ }) (v := ?_) rfl (by kernel_rfl) (by kernel_rfl) (by kernel_rfl) (fun _ _ _ h => h) (Or.inl ⟨by rfl, ?_⟩) (by assumption) ?_
            case refine_2 => ((intro w hSw; (try dsimp only at hSw); go_simp); try with_reducible rfl)
            try simp only [Act.put, List.setIfInBounds_toArray, List.set_cons_zero, List.set_cons_succ]
            refine wpAnyH_take (i := 6) (oi := { dst := some 50, op := _, type := _, pos := _, after := _, guard := _ }) (v := ?_) rfl (by kernel_rfl) (by kernel_rfl) (by kernel_rfl) (fun _ _ _ h => h) (Or.inl ⟨by rfl, ?_⟩) (by assumption) ?_
            case refine_2 => ((intro w hSw; (try dsimp only at hSw); go_simp); try with_reducible rfl)
            try simp only [Act.put, List.setIfInBounds_toArray, List.set_cons_zero, List.set_cons_succ]
            have hb5 := below_drewN (Below.alloc (Below.refl w4.heap.size w4) (Nat.le_refl _) (.cells #[.int .i64 Rn, .int .i64 C, .slice (some ⟨G, 0, none⟩) N N] 47)) 1
            refine wpAnyH_ready (rs := [5]) (by kernel_rfl) (by simp) ?_
            refine AllReadyH.cons (o := { dst := some 49, op := _, type := _, pos := _, after := _, guard := _ }) rfl (fun K hK => ?_) AllReadyH.nil
            go_simp
            go_at_call 48
            refine (HIx.out _).mono ?_
            rintro e wc ⟨rfl, rfl⟩
            refine hK.out _ _ (((HF4.out.below hb5).1.cells.2)) (fun hHeld => ?_)
            clear hK K
            try simp only [Act.put, List.setIfInBounds_toArray, List.set_cons_zero, List.set_cons_succ]
            refine wpAnyH_take (i := 7) (oi := { dst := some 51, op := _, type := _, pos := _, after := _, guard := _ }) (v := ?_) rfl (by kernel_rfl) (by kernel_rfl) (by kernel_rfl) (fun _ _ _ h => h) (Or.inl ⟨by rfl, ?_⟩) (by assumption) ?_
            case refine_2 => ((intro w hSw; (try dsimp only at hSw); go_simp); try with_reducible rfl)
            try simp only [Act.put, List.setIfInBounds_toArray, List.set_cons_zero, List.set_cons_succ]
            have hb4 := Below.alloc (Below.refl w4.heap.size w4) (Nat.le_refl _) (.cells #[.int .i64 Rn, .int .i64 C, .slice (some ⟨G, 0, none⟩) N N] 47)
            have HS := Lib.hid (((HF4.out.below hb4).store hG1 (by omega)).drewN 1)
            rw [HX.out] at HS
            have hold := (HF4.out.below hb4).2.1.cellAt (P + c) (by omega)
            have hfr := (HF4.out.below hb4).2.1.frozenAt (P + c)
            clear hb4
            refine wpAnyH_ready (rs := [8]) (by kernel_rfl) (by simp) ?_
            refine AllReadyH.cons (o := { dst := none, op := _, type := _, pos := _, after := _, guard := _ }) rfl (fun K hK => ?_) AllReadyH.nil
            go_simp
            refine hK.out _ _ ((HS.out.1.cells.2)) (fun hHeld => ?_)
            clear hK K
            try simp only [Act.put, List.setIfInBounds_toArray, List.set_cons_zero, List.set_cons_succ]
            refine wpAnyH_done (by kernel_rfl) ?_ _
            clear hHeld hold hfr g1 g2 g3
            go_wp2
            go_roundw
            case rel =>
              refine ⟨c + 1, by omega, by go_num, fun j hj => ?_, HS.out⟩
              by_cases e : j = c
              · subst e; exact HHx.out
              · exact HHt.out j (by omega)
            case measure => simp [intOf]; omega
          · have hht' : htB x = false := by simpa using hht
            have HHx := Lib.hid (show htB (hgt r c) = false by rw [← HX2.out]; exact hht')
            rw [hht'] at HH
            clear hht hht'
            go_wp2_with fail
            with_reducible refine (HH.out _).mono ?_
            rintro e w' ⟨rfl, rfl⟩
            go_wp2
            go_ret2
            exact Made.no hlt hltc HHx.out HF4.out.2.2
        · have hce : c = C := by omega
          have HF2 := Lib.hid (show MF w w1.heap.size G Rn C N (fun i => hgt (i / C) (i % C)) ((r + 1) * C) wr from by have q := HFs.out; rw [hce] at q; rw [Nat.add_mul, Nat.one_mul, ← HP.out]; exact q)
          have HHt2 := Lib.hid (show ∀ c', c' < C → htB (hgt r c') = true from fun c' h => HHt.out c' (by omega))
          clear hce
          go_wp2
          go_roundw
          case rel =>
            refine ⟨r + 1, by omega, by go_num, fun r' c' h1 h2 => ?_, HF2.out⟩
            by_cases e : r' = r
            · subst e; exact HHt2.out c' h2
            · exact HOk.out r' c' (by omega) h2
          case measure => simp [intOf]; omega
    · have hke : r = Rn := by omega
      have HOk2 := Lib.hid (show ∀ r' c', r' < Rn → c' < C → htB (hgt r' c') = true from fun r' c' h1 h2 => HOk.out r' c' (by omega) h2)
      have HL := Lib.hid (show Calls Try.prog 54 #[.agg #[.int .i64 Rn, .int .i64 C, .slice (some ⟨G, 0, none⟩) N N]] wr fun e w' => ∃ ad c, e = .returned (.slice ad Rn c) ∧ MRow w' (.slice ad Rn c) (gridF hgt Rn C) ∧ Below wr.heap.size wr w' from by
        have q := HMF.out.2.1
        rw [hke, ← HN.out] at q
        have := lists_any Rn C N G _ wr q.row HN.out h3 h4 h2
        rw [HN.out, gridF_lists] at this
        rw [HN.out]
        exact this)
      obtain ⟨-, g1, g2, g3⟩ := HMF.out.1.cells
      have HB := Lib.hid HMF.out.2.2
      clear hke HMF
      go_wp2_with fail
      with_reducible refine HL.out.mono ?_
      rintro e w4 ⟨ad, cc, rfl, hm, hb⟩
      have HM := Lib.hid hm
      have HB4 := Lib.hid (HB.out.trans (hb.mono HB.out.size))
      clear hm hb
      go_wp2
      go_ret2
      exact Made.yes HOk2.out HM.out HB4.out


set_option maxHeartbeats 2000000 in
theorem madeRaise_any (Rn C : Nat) (Bf Bk : Nat) (hgt : Nat → Nat → Int) (w : World) (h1 : 1 ≤ Rn) (h2 : Rn ≤ 7) (h3 : 1 ≤ C) (h4 : C ≤ 7)
    (HC0 : ∀ wx r c, Below w.heap.size w wx → r < Rn → c < C → Calls Try.prog 43 #[.int .i64 (r : Nat), .int .i64 (c : Nat), .pointer (some ⟨Bf, 0, none⟩), .pointer (some ⟨Bk, 0, none⟩)] wx fun e w' => e = .returned (.int .i64 (hgt r c)) ∧ Below wx.heap.size wx w') :
    Calls Try.prog 39 #[.int .i64 Rn, .int .i64 C, .func (.func 43) #[] #[.pointer (some ⟨Bf, 0, none⟩), .pointer (some ⟨Bk, 0, none⟩)]] w (Made hgt Rn C w) := by
  obtain ⟨N, hN⟩ : ∃ N, N = Rn * C := ⟨_, rfl⟩
  have hN49 : N ≤ 49 := by rw [hN]; exact Nat.mul_le_mul h2 h4
  have HBl := Lib.hid (fun wx => blank_any Rn C N wx hN (by omega))
  have HC := Lib.hid HC0
  have HN := Lib.hid hN
  clear hN HC0
  go_enter Try.func39, Try.ntmps39
  go_wp2_with fail
  with_reducible refine (HBl.out _).mono ?_
  rintro e w1 ⟨G, rfl, hG1, ho, hb⟩
  have hG2 := (ho.lt G rfl).2
  have HMF := Lib.hid (show MF w w1.heap.size G Rn C N (fun i => hgt (i / C) (i % C)) 0 (w1.alloc (.cells #[.int .i64 Rn, .int .i64 C, .slice (some ⟨G, 0, none⟩) N N] 47)) from
    ⟨FldAt.new w1 Rn C _, by rw [fillF_zero]; exact ho.below (Below.alloc (Below.refl _ _) (Nat.le_refl _) _), hb.trans ((Below.alloc (Below.refl w1.heap.size w1) (Nat.le_refl _) _).mono hb.size)⟩)
  clear hb ho
  go_wp2
  go_loopw [30] (fun i wr => ∃ r : Nat, r ≤ Rn ∧ i = .int .i64 r ∧ (∀ r' c', r' < r → c' < C → htB (hgt r' c') = true) ∧ MF w w1.heap.size G Rn C N (fun i => hgt (i / C) (i % C)) (r * C) wr) (fun i _ => Rn - (intOf i).toNat)
  case atStart => exact ⟨0, Nat.zero_le _, rfl, fun r' c' h => by omega, by rw [Nat.zero_mul]; exact HMF.out⟩
  case round =>
    obtain ⟨r, hr, rfl, hok, hmf⟩ := hrel
    clear HMF
    have HOk := Lib.hid hok
    have HMF := Lib.hid hmf
    clear hok hmf
    by_cases hlt : r < Rn
    · obtain ⟨P, hP⟩ : ∃ P, P = r * C := ⟨_, rfl⟩
      have hPN : P + C ≤ N := by
        have h := Nat.mul_le_mul_right C (show r + 1 ≤ Rn by omega)
        rw [Nat.add_mul, ← hP] at h
        rw [HN.out]; omega
      have HP := Lib.hid hP
      rw [← hP] at HMF
      clear hP
      go_wp2
      go_loopw [34] (fun i ws => ∃ c : Nat, c ≤ C ∧ i = .int .i64 c ∧ (∀ c', c' < c → htB (hgt r c') = true) ∧ MF w w1.heap.size G Rn C N (fun i => hgt (i / C) (i % C)) (P + c) ws) (fun i _ => C - (intOf i).toNat)
      case atStart => exact ⟨0, Nat.zero_le _, rfl, fun c' h => by omega, HMF.out⟩
      case round =>
        obtain ⟨c, hc, rfl, hht, hfs⟩ := hrel
        clear HMF
        have HHt := Lib.hid hht
        have HFs := Lib.hid hfs
        clear hht hfs
        by_cases hltc : c < C
        · have HCc := Lib.hid (HC.out wr r c HFs.out.2.2 hlt hltc)
          obtain ⟨x, hx⟩ : ∃ x, x = hgt r c := ⟨_, rfl⟩
          rw [← hx] at HCc
          have HX := Lib.hid (show (fun i => hgt (i / C) (i % C)) (P + c) = x from by
            show hgt ((P + c) / C) ((P + c) % C) = x
            rw [HP.out, (idx_div hltc).1, (idx_div hltc).2, hx])
          have HX2 := Lib.hid hx
          clear hx
          go_wp2_with fail
          with_reducible refine HCc.out.mono ?_
          rintro e w4 ⟨rfl, hb⟩
          have HF4 := Lib.hid (HFs.out.below hb)
          clear hb HFs HCc
          have HH := Lib.hid (fun wx => height_any x wx)
          by_cases hht : htB x = true
          · have HHx := Lib.hid (show htB (hgt r c) = true by rw [← HX2.out]; exact hht)
            rw [hht] at HH
            clear hht
            go_wp2_with fail
            with_reducible refine (HH.out _).mono ?_
            rintro e w' ⟨rfl, rfl⟩
            go_wp2
            obtain ⟨-, g1, g2, g3⟩ := HF4.out.1.cells
            have HIx := Lib.hid (fun wx => index_any Rn C r c P (some ⟨G, 0, none⟩) N N wx HP.out (by omega))
            have q1 : (0 : Int) ≤ (P : Int) + (c : Int) := by omega
            have q2 : (P : Int) + (c : Int) < (N : Int) := by omega
            have q3 : ((P : Int) + (c : Int)).toNat = P + c := by omega
            refine wp_region_held_drew (S := fun wx => wx.cell? ⟨w1.heap.size, 0, none⟩ = some (.int .i64 Rn) ∧ wx.cell? ⟨w1.heap.size, 1, none⟩ = some (.int .i64 C) ∧ wx.cell? ⟨w1.heap.size, 2, none⟩ = some (.slice (some ⟨G, 0, none⟩) N N)) (by kernel_rfl) (⟨g1, g2, g3⟩) (fun hHeld => ?_)
            refine wpAnyH_take (i := 0) (oi := { dst := some 44, op := _, type := _, pos := _, after := _, guard := _ }) (v := ?_) rfl (by kernel_rfl) (by kernel_rfl) (by kernel_rfl) (fun _ _ _ h => h) (Or.inl ⟨by rfl, ?_⟩) (by assumption) ?_
            case refine_2 => ((intro w hSw; (try dsimp only at hSw); go_simp); try with_reducible rfl)
            try simp only [Act.put, List.setIfInBounds_toArray, List.set_cons_zero, List.set_cons_succ]
            refine wpAnyH_take (i := 1) (oi := { dst := some 45, op := _, type := _, pos := _, after := _, guard := _ }) (v := ?_) rfl (by kernel_rfl) (by kernel_rfl) (by kernel_rfl) (fun _ _ _ h => h) (Or.inl ⟨by rfl, ?_⟩) (by assumption) ?_
            case refine_2 => ((intro w hSw; (try dsimp only at hSw); go_simp); try with_reducible rfl)
            try simp only [Act.put, List.setIfInBounds_toArray, List.set_cons_zero, List.set_cons_succ]
            refine wpAnyH_take (i := 2) (oi := { dst := some 46, op := _, type := _, pos := _, after := _, guard := _ }) (v := ?_) rfl (by kernel_rfl) (by kernel_rfl) (by kernel_rfl) (fun _ _ _ h => h) (Or.inl ⟨by rfl, ?_⟩) (by assumption) ?_
            case refine_2 => ((intro w hSw; (try dsimp only at hSw); go_simp); try with_reducible rfl)
            try simp only [Act.put, List.setIfInBounds_toArray, List.set_cons_zero, List.set_cons_succ]
            refine wpAnyH_take (i := 3) (oi := { dst := some 47, op := _, type := _, pos := _, after := _, guard := _ }) (v := ?_) rfl (by kernel_rfl) (by kernel_rfl) (by kernel_rfl) (fun _ _ _ h => h) (Or.inl ⟨by rfl, ?_⟩) (by assumption) ?_
            case refine_2 => ((intro w hSw; (try dsimp only at hSw); go_simp); try with_reducible rfl)
            try simp only [Act.put, List.setIfInBounds_toArray, List.set_cons_zero, List.set_cons_succ]
            refine wpAnyH_take (i := 4) (oi := { dst := some 48, op := _, type := _, pos := _, after := _, guard := _ }) (v := ?_) rfl (by kernel_rfl) (by kernel_rfl) (by kernel_rfl) (fun _ _ _ h => h) (Or.inl ⟨by rfl, ?_⟩) (by assumption) ?_
            case refine_2 => ((intro w hSw; (try dsimp only at hSw); go_simp); try with_reducible rfl)
            try simp only [Act.put, List.setIfInBounds_toArray, List.set_cons_zero, List.set_cons_succ]
            refine wpAnyH_take (i := 6) (oi := { dst := some 50, op := _, type := _, pos := _, after := _, guard := _ }) (v := ?_) rfl (by kernel_rfl) (by kernel_rfl) (by kernel_rfl) (fun _ _ _ h => h) (Or.inl ⟨by rfl, ?_⟩) (by assumption) ?_
            case refine_2 => ((intro w hSw; (try dsimp only at hSw); go_simp); try with_reducible rfl)
            try simp only [Act.put, List.setIfInBounds_toArray, List.set_cons_zero, List.set_cons_succ]
            have hb5 := below_drewN (Below.alloc (Below.refl w4.heap.size w4) (Nat.le_refl _) (.cells #[.int .i64 Rn, .int .i64 C, .slice (some ⟨G, 0, none⟩) N N] 47)) 1
            refine wpAnyH_ready (rs := [5]) (by kernel_rfl) (by simp) ?_
            refine AllReadyH.cons (o := { dst := some 49, op := _, type := _, pos := _, after := _, guard := _ }) rfl (fun K hK => ?_) AllReadyH.nil
            go_simp
            go_at_call 48
            refine (HIx.out _).mono ?_
            rintro e wc ⟨rfl, rfl⟩
            refine hK.out _ _ (((HF4.out.below hb5).1.cells.2)) (fun hHeld => ?_)
            clear hK K
            try simp only [Act.put, List.setIfInBounds_toArray, List.set_cons_zero, List.set_cons_succ]
            refine wpAnyH_take (i := 7) (oi := { dst := some 51, op := _, type := _, pos := _, after := _, guard := _ }) (v := ?_) rfl (by kernel_rfl) (by kernel_rfl) (by kernel_rfl) (fun _ _ _ h => h) (Or.inl ⟨by rfl, ?_⟩) (by assumption) ?_
            case refine_2 => ((intro w hSw; (try dsimp only at hSw); go_simp); try with_reducible rfl)
            try simp only [Act.put, List.setIfInBounds_toArray, List.set_cons_zero, List.set_cons_succ]
            have hb4 := Below.alloc (Below.refl w4.heap.size w4) (Nat.le_refl _) (.cells #[.int .i64 Rn, .int .i64 C, .slice (some ⟨G, 0, none⟩) N N] 47)
            have HS := Lib.hid (((HF4.out.below hb4).store hG1 (by omega)).drewN 1)
            rw [HX.out] at HS
            have hold := (HF4.out.below hb4).2.1.cellAt (P + c) (by omega)
            have hfr := (HF4.out.below hb4).2.1.frozenAt (P + c)
            clear hb4
            refine wpAnyH_ready (rs := [8]) (by kernel_rfl) (by simp) ?_
            refine AllReadyH.cons (o := { dst := none, op := _, type := _, pos := _, after := _, guard := _ }) rfl (fun K hK => ?_) AllReadyH.nil
            go_simp
            refine hK.out _ _ ((HS.out.1.cells.2)) (fun hHeld => ?_)
            clear hK K
            try simp only [Act.put, List.setIfInBounds_toArray, List.set_cons_zero, List.set_cons_succ]
            refine wpAnyH_done (by kernel_rfl) ?_ _
            clear hHeld hold hfr g1 g2 g3
            go_wp2
            go_roundw
            case rel =>
              refine ⟨c + 1, by omega, by go_num, fun j hj => ?_, HS.out⟩
              by_cases e : j = c
              · subst e; exact HHx.out
              · exact HHt.out j (by omega)
            case measure => simp [intOf]; omega
          · have hht' : htB x = false := by simpa using hht
            have HHx := Lib.hid (show htB (hgt r c) = false by rw [← HX2.out]; exact hht')
            rw [hht'] at HH
            clear hht hht'
            go_wp2_with fail
            with_reducible refine (HH.out _).mono ?_
            rintro e w' ⟨rfl, rfl⟩
            go_wp2
            go_ret2
            exact Made.no hlt hltc HHx.out HF4.out.2.2
        · have hce : c = C := by omega
          have HF2 := Lib.hid (show MF w w1.heap.size G Rn C N (fun i => hgt (i / C) (i % C)) ((r + 1) * C) wr from by have q := HFs.out; rw [hce] at q; rw [Nat.add_mul, Nat.one_mul, ← HP.out]; exact q)
          have HHt2 := Lib.hid (show ∀ c', c' < C → htB (hgt r c') = true from fun c' h => HHt.out c' (by omega))
          clear hce
          go_wp2
          go_roundw
          case rel =>
            refine ⟨r + 1, by omega, by go_num, fun r' c' h1 h2 => ?_, HF2.out⟩
            by_cases e : r' = r
            · subst e; exact HHt2.out c' h2
            · exact HOk.out r' c' (by omega) h2
          case measure => simp [intOf]; omega
    · have hke : r = Rn := by omega
      have HOk2 := Lib.hid (show ∀ r' c', r' < Rn → c' < C → htB (hgt r' c') = true from fun r' c' h1 h2 => HOk.out r' c' (by omega) h2)
      have HL := Lib.hid (show Calls Try.prog 54 #[.agg #[.int .i64 Rn, .int .i64 C, .slice (some ⟨G, 0, none⟩) N N]] wr fun e w' => ∃ ad c, e = .returned (.slice ad Rn c) ∧ MRow w' (.slice ad Rn c) (gridF hgt Rn C) ∧ Below wr.heap.size wr w' from by
        have q := HMF.out.2.1
        rw [hke, ← HN.out] at q
        have := lists_any Rn C N G _ wr q.row HN.out h3 h4 h2
        rw [HN.out, gridF_lists] at this
        rw [HN.out]
        exact this)
      obtain ⟨-, g1, g2, g3⟩ := HMF.out.1.cells
      have HB := Lib.hid HMF.out.2.2
      clear hke HMF
      go_wp2_with fail
      with_reducible refine HL.out.mono ?_
      rintro e w4 ⟨ad, cc, rfl, hm, hb⟩
      have HM := Lib.hid hm
      have HB4 := Lib.hid (HB.out.trans (hb.mono HB.out.size))
      clear hm hb
      go_wp2
      go_ret2
      exact Made.yes HOk2.out HM.out HB4.out


end Go.Proofs.Ytjpcbegndnbeeaa
