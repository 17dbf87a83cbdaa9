/- Contracts: GridTurn, GridMirror, GridRaise of the program, at a grid. -/
import Derived.Test.YtjpcbegndnbeeaaMade
import Derived.Test.YtjpcbegndnbeeaaIRow
import Derived.Test.YtjpcbegndnbeeaaPlainGS
namespace Go.Proofs.Ytjpcbegndnbeeaa
open Go.RowKit
set_option linter.unusedVariables false

/-- A field lies at an address, with its cells. -/
def FldIn (Bf G n C N : Nat) (g : List (List Int)) (w : World) : Prop := FldAt Bf n C (.slice (some ⟨G, 0, none⟩) N N) w ∧ Row w (.slice (some ⟨G, 0, none⟩) N N) (flatG g n C N)
theorem FldIn.below {Bf G n C N : Nat} {g : List (List Int)} {w w' : World} (h : FldIn Bf G n C N g w) (hb : Below w.heap.size w w') : FldIn Bf G n C N g w' := ⟨h.1.below hb, h.2.below hb⟩


theorem turn1_any (Bf G n C N : Nat) (g : List (List Int)) (r c : Nat) (w : World) (h : FldIn Bf G n C N g w) (hN : N = n * C) (hn7 : n ≤ 7) (hC7 : C ≤ 7) (hr : r < C) (hc : c < n) :
    Calls Try.prog 42 #[.int .i64 (r : Nat), .int .i64 (c : Nat), .pointer (some ⟨Bf, 0, none⟩)] w fun e w' => e = .returned (.int .i64 (cellG g (n - 1 - c) (r))) ∧ Below w.heap.size w w' := by
  have HA := Lib.hid (show Calls Try.prog 32 #[.agg #[.int .i64 n, .int .i64 C, .slice (some ⟨G, 0, none⟩) N N], .int .i64 (n - 1 - c : Nat), .int .i64 (r : Nat)] w fun e w' => e = .returned (.int .i64 (cellG g (n - 1 - c) (r))) ∧ Below w.heap.size w w' from by
    have hN49 : N ≤ 49 := by rw [hN]; exact Nat.mul_le_mul hn7 hC7
    have := fat_any n C (n - 1 - c) (r) (some ⟨G, 0, none⟩) N N (flatG g n C N) w h.2 hN (by omega) (by omega) (by omega)
    rw [hN, flat_getD g (by omega) (by omega)] at this
    rw [hN]
    exact this)
  obtain ⟨-, g1, g2, g3⟩ := h.1.cells
  have t1 : (n : Int) - 1 - (c : Int) = ((n - 1 - c : Nat) : Int) := by omega
  clear h hN
  go_enter Try.func42, Try.ntmps42
  go_wp2_with fail
  with_reducible refine HA.out.mono ?_
  rintro e w' ⟨rfl, hb⟩
  go_wp2
  go_ret
  exact ⟨rfl, hb⟩


theorem mirror1_any (Bf G n C N : Nat) (g : List (List Int)) (r c : Nat) (w : World) (h : FldIn Bf G n C N g w) (hN : N = n * C) (hn7 : n ≤ 7) (hC7 : C ≤ 7) (hr : r < n) (hc : c < C) :
    Calls Try.prog 40 #[.int .i64 (r : Nat), .int .i64 (c : Nat), .pointer (some ⟨Bf, 0, none⟩)] w fun e w' => e = .returned (.int .i64 (cellG g (r) (C - 1 - c))) ∧ Below w.heap.size w w' := by
  have HA := Lib.hid (show Calls Try.prog 32 #[.agg #[.int .i64 n, .int .i64 C, .slice (some ⟨G, 0, none⟩) N N], .int .i64 (r : Nat), .int .i64 (C - 1 - c : Nat)] w fun e w' => e = .returned (.int .i64 (cellG g (r) (C - 1 - c))) ∧ Below w.heap.size w w' from by
    have hN49 : N ≤ 49 := by rw [hN]; exact Nat.mul_le_mul hn7 hC7
    have := fat_any n C (r) (C - 1 - c) (some ⟨G, 0, none⟩) N N (flatG g n C N) w h.2 hN (by omega) (by omega) (by omega)
    rw [hN, flat_getD g (by omega) (by omega)] at this
    rw [hN]
    exact this)
  obtain ⟨-, g1, g2, g3⟩ := h.1.cells
  have t1 : (C : Int) - 1 - (c : Int) = ((C - 1 - c : Nat) : Int) := by omega
  clear h hN
  go_enter Try.func40, Try.ntmps40
  go_wp2_with fail
  with_reducible refine HA.out.mono ?_
  rintro e w' ⟨rfl, hb⟩
  go_wp2
  go_ret
  exact ⟨rfl, hb⟩


set_option maxHeartbeats 400000 in
theorem raise1_any (Bf Bk G n C N : Nat) (g : List (List Int)) (r c : Nat) (w : World) (h : FldIn Bf G n C N g w) (hk : w.cell? ⟨Bk, 0, none⟩ = some (.int .i64 1)) (hN : N = n * C) (hn7 : n ≤ 7) (hC7 : C ≤ 7) (hr : r < n) (hc : c < C) (hv : 0 ≤ cellG g r c ∧ cellG g r c ≤ 99) :
    Calls Try.prog 43 #[.int .i64 (r : Nat), .int .i64 (c : Nat), .pointer (some ⟨Bf, 0, none⟩), .pointer (some ⟨Bk, 0, none⟩)] w fun e w' => e = .returned (.int .i64 (cellG g r c + 1)) ∧ Below w.heap.size w w' := by
  have HA := Lib.hid (show ∀ q, Calls Try.prog 32 #[.agg #[.int .i64 n, .int .i64 C, .slice (some ⟨G, 0, none⟩) N N], .int .i64 (r : Nat), .int .i64 (c : Nat)] (w.drewN q) fun e w' => e = .returned (.int .i64 (cellG g r c)) ∧ Below (w.drewN q).heap.size (w.drewN q) w' from fun q => by
    have hN49 : N ≤ 49 := by rw [hN]; exact Nat.mul_le_mul hn7 hC7
    have := fat_any n C r c (some ⟨G, 0, none⟩) N N (flatG g n C N) (w.drewN q) (h.2.drewN q) hN (by omega) (by omega) (by omega)
    rw [hN, flat_getD g (by omega) (by omega)] at this
    rw [hN]
    exact this)
  obtain ⟨-, g1, g2, g3⟩ := h.1.cells
  have h1 := h.1
  have lk := World.block_lt_of_cell? _ _ hk
  obtain ⟨x, hx⟩ : ∃ x, x = cellG g r c := ⟨_, rfl⟩
  rw [← hx] at HA hv ⊢
  obtain ⟨v0, v1⟩ := hv
  have t1 : IntKind.i64.wrap (x + 1) = x + 1 := IntWalk.i64_in _ (by omega)
  clear hN hx h
  go_enter Try.func43, Try.ntmps43
  go_wp2
  refine wp_region_held_drew (S := fun wx => wx.cell? ⟨Bf, 0, none⟩ = some (.int .i64 n) ∧ wx.cell? ⟨Bf, 1, none⟩ = some (.int .i64 C) ∧ wx.cell? ⟨Bf, 2, none⟩ = some (.slice (some ⟨G, 0, none⟩) N N) ∧ wx.cell? ⟨Bk, 0, none⟩ = some (.int .i64 1)) (by kernel_rfl) (⟨g1, g2, g3, hk⟩) (fun hHeld => ?_)
  refine wpAnyH_take (i := 0) (oi := { dst := some 7, op := _, type := _, pos := _, after := _, guard := _ }) (v := ?_) rfl (by kernel_rfl) (by kernel_rfl) (by kernel_rfl) (fun _ _ _ h => h) (Or.inl ⟨by rfl, ?_⟩) (by assumption) ?_
  case refine_2 => ((intro w hSw; (try dsimp only at hSw); go_simp); try with_reducible rfl)
  try simp only [Act.put, List.setIfInBounds_toArray, List.set_cons_zero, List.set_cons_succ]
  refine wpAnyH_take (i := 1) (oi := { dst := some 8, op := _, type := _, pos := _, after := _, guard := _ }) (v := ?_) rfl (by kernel_rfl) (by kernel_rfl) (by kernel_rfl) (fun _ _ _ h => h) (Or.inl ⟨by rfl, ?_⟩) (by assumption) ?_
  case refine_2 => ((intro w hSw; (try dsimp only at hSw); go_simp); try with_reducible rfl)
  try simp only [Act.put, List.setIfInBounds_toArray, List.set_cons_zero, List.set_cons_succ]
  refine wpAnyH_take (i := 2) (oi := { dst := some 9, op := _, type := _, pos := _, after := _, guard := _ }) (v := ?_) rfl (by kernel_rfl) (by kernel_rfl) (by kernel_rfl) (fun _ _ _ h => h) (Or.inl ⟨by rfl, ?_⟩) (by assumption) ?_
  case refine_2 => ((intro w hSw; (try dsimp only at hSw); go_simp); try with_reducible rfl)
  try simp only [Act.put, List.setIfInBounds_toArray, List.set_cons_zero, List.set_cons_succ]
  refine wpAnyH_take (i := 4) (oi := { dst := some 11, op := _, type := _, pos := _, after := _, guard := _ }) (v := ?_) rfl (by kernel_rfl) (by kernel_rfl) (by kernel_rfl) (fun _ _ _ h => h) (Or.inl ⟨by rfl, ?_⟩) (by assumption) ?_
  case refine_2 => ((intro w hSw; (try dsimp only at hSw); go_simp); try with_reducible rfl)
  try simp only [Act.put, List.setIfInBounds_toArray, List.set_cons_zero, List.set_cons_succ]
  refine wpAnyH_ready (rs := [3]) (by kernel_rfl) (by simp) ?_
  refine AllReadyH.cons (o := { dst := some 10, op := _, type := _, pos := _, after := _, guard := _ }) rfl (fun K hK => ?_) AllReadyH.nil
  go_simp
  go_at_call 32
  refine (HA.out 1).mono ?_
  rintro e wc ⟨rfl, hbx⟩
  have HBx := Lib.hid ((below_drewN (Below.refl w.heap.size w) 1).trans hbx)
  clear hbx
  refine hK.out _ _ ((by have q := (h1.below HBx.out).cells; exact ⟨q.2.1, q.2.2.1, q.2.2.2, (HBx.out.cell (p := ⟨Bk, 0, none⟩) lk).trans hk⟩)) (fun hHeld => ?_)
  clear hK K
  try simp only [Act.put, List.setIfInBounds_toArray, List.set_cons_zero, List.set_cons_succ]
  refine wpAnyH_take (i := 5) (oi := { dst := some 12, op := _, type := _, pos := _, after := _, guard := _ }) (v := ?_) rfl (by kernel_rfl) (by kernel_rfl) (by kernel_rfl) (fun _ _ _ h => h) (Or.inl ⟨by rfl, ?_⟩) (by assumption) ?_
  case refine_2 => ((intro w hSw; (try dsimp only at hSw); go_simp); try with_reducible rfl)
  try simp only [Act.put, List.setIfInBounds_toArray, List.set_cons_zero, List.set_cons_succ]
  refine wpAnyH_take (i := 6) (oi := { dst := some 6, op := _, type := _, pos := _, after := _, guard := _ }) (v := ?_) rfl (by kernel_rfl) (by kernel_rfl) (by kernel_rfl) (fun _ _ _ h => h) (Or.inl ⟨by rfl, ?_⟩) (by assumption) ?_
  case refine_2 => ((intro w hSw; (try dsimp only at hSw); go_simp); try with_reducible rfl)
  try simp only [Act.put, List.setIfInBounds_toArray, List.set_cons_zero, List.set_cons_succ]
  refine wpAnyH_done (by kernel_rfl) ?_ _
  clear hHeld
  go_wp2
  go_ret
  exact ⟨rfl, HBx.out⟩


set_option maxHeartbeats 1000000 in
theorem iturn_any (v : Value) (g : List (List Int)) (w : World) (hr : MRow w v g) (hv : gvalB g = true) (hn : g.length ≤ 1048576) (hm : tot g ≤ 1048576) :
    Calls Try.prog 23 #[v] w (fun e w' => ∃ ad c, e = .returned (.tuple #[.slice ad (colsG g) c, .bool true]) ∧ MRow w' (.slice ad (colsG g) c) (turnG g) ∧ Below w.heap.size w w') := by
  obtain ⟨g1, g2, g3, g4⟩ := gval_rows hv
  obtain ⟨n, hN⟩ : ∃ n, n = g.length := ⟨_, rfl⟩
  obtain ⟨C, hC⟩ : ∃ C, C = colsG g := ⟨_, rfl⟩
  obtain ⟨N, hNN⟩ : ∃ N, N = n * C := ⟨_, rfl⟩
  have HF := Lib.hid (fld_yes hr hv n C N hN hC hNN hn hm)
  obtain ⟨a, cap, rfl⟩ := hr.shape
  have HCe := Lib.hid (fun r c (hr : r < n) (hc : c < C) => gval_cell hv r c (by omega) (by omega))
  rw [← hN] at HF g1 g2 ⊢
  rw [← hC] at g3 g4 ⊢
  have HNN := Lib.hid hNN
  have HN := Lib.hid hN
  have HC := Lib.hid hC
  have hmf : ∀ (fn : Fn) (first cap : Array Value) (w : World), (Instr.makeFunc fn first cap).run Try.prog w = .ok (.func fn first cap) w := fun _ _ _ _ => rfl
  clear hr hv hN hC hNN hn hm
  go_enter Try.func23, Try.ntmps23
  go_wp2_with fail
  with_reducible refine HF.out.mono ?_
  rintro e w1 ⟨G, rfl, ho, hb⟩
  have hFI := (show FldIn w1.heap.size G n C N g (w1.alloc (.cells #[.int .i64 n, .int .i64 C, .slice (some ⟨G, 0, none⟩) N N] 47)) from
    ⟨FldAt.new w1 n C _, (ho.below (Below.alloc (Below.refl _ _) (Nat.le_refl _) _)).row⟩)
  have hBA := (hb.trans ((Below.alloc (Below.refl w1.heap.size w1) (Nat.le_refl _) (.cells #[.int .i64 n, .int .i64 C, .slice (some ⟨G, 0, none⟩) N N] 47)).mono hb.size))
  clear hb ho
  obtain ⟨W, hW⟩ : ∃ W, W = w1.alloc (.cells #[.int .i64 n, .int .i64 C, .slice (some ⟨G, 0, none⟩) N N] 47) := ⟨_, rfl⟩
  rw [← hW] at hFI hBA
  have HW := Lib.hid hW
  have HFI := Lib.hid hFI
  have HBA := Lib.hid hBA
  have HMd := Lib.hid (show Calls Try.prog 39 #[.int .i64 (C : Nat), .int .i64 (n : Nat), .func (.func 42) #[] #[.pointer (some ⟨w1.heap.size, 0, none⟩)]] W (Made (fun r c => cellG g (n - 1 - c) r) (C) (n) W) from
    madeTurn_any (C) (n) w1.heap.size _ W (by omega) (by omega) (by omega) (by omega) (fun wx r c hb hr hc => turn1_any w1.heap.size G n C N g r c wx (HFI.out.below hb) HNN.out g2 g4 hr hc))
  rw [hW] at HMd
  clear hW hFI hBA
  go_wp2_with fail
  with_reducible refine HMd.out.mono ?_
  rintro e w2 ⟨hmk, hb⟩
  have HB2 := Lib.hid (HBA.out.trans ((show Below W.heap.size W w2 by rw [HW.out]; exact hb).mono HBA.out.size))
  clear hb
  have hmk2 : ∃ ad cp, e = .returned (.tuple #[.slice ad (C) cp, .bool true]) ∧ MRow w2 (.slice ad (C) cp) (gridF (fun r c => cellG g (n - 1 - c) r) (C) (n)) := by
    rcases hmk with ⟨-, h⟩ | ⟨⟨r, c, h1, h2, h3⟩, -⟩
    · exact h
    · have := HCe.out (n - 1 - c) r (by omega) h1
      rw [show htB (cellG g (n - 1 - c) r) = true from ht_iff.2 this] at h3
      cases h3
  clear hmk
  obtain ⟨ad, cp, rfl, hM⟩ := hmk2
  have HM := Lib.hid hM
  clear hM
  go_wp2
  go_ret2
  exact ⟨ad, cp, rfl, by have q := HM.out; unfold turnG; rw [← HN.out, ← HC.out]; exact q, HB2.out⟩


set_option maxHeartbeats 1000000 in
theorem imirror_any (v : Value) (g : List (List Int)) (w : World) (hr : MRow w v g) (hv : gvalB g = true) (hn : g.length ≤ 1048576) (hm : tot g ≤ 1048576) :
    Calls Try.prog 20 #[v] w (fun e w' => ∃ ad c, e = .returned (.tuple #[.slice ad (g.length) c, .bool true]) ∧ MRow w' (.slice ad (g.length) c) (gridF (fun r c => cellG g r (colsG g - 1 - c)) g.length (colsG g)) ∧ Below w.heap.size w w') := by
  obtain ⟨g1, g2, g3, g4⟩ := gval_rows hv
  obtain ⟨n, hN⟩ : ∃ n, n = g.length := ⟨_, rfl⟩
  obtain ⟨C, hC⟩ : ∃ C, C = colsG g := ⟨_, rfl⟩
  obtain ⟨N, hNN⟩ : ∃ N, N = n * C := ⟨_, rfl⟩
  have HF := Lib.hid (fld_yes hr hv n C N hN hC hNN hn hm)
  obtain ⟨a, cap, rfl⟩ := hr.shape
  have HCe := Lib.hid (fun r c (hr : r < n) (hc : c < C) => gval_cell hv r c (by omega) (by omega))
  rw [← hN] at HF g1 g2 ⊢
  rw [← hC] at g3 g4 ⊢
  have HNN := Lib.hid hNN
  have HN := Lib.hid hN
  have HC := Lib.hid hC
  have hmf : ∀ (fn : Fn) (first cap : Array Value) (w : World), (Instr.makeFunc fn first cap).run Try.prog w = .ok (.func fn first cap) w := fun _ _ _ _ => rfl
  clear hr hv hN hC hNN hn hm
  go_enter Try.func20, Try.ntmps20
  go_wp2_with fail
  with_reducible refine HF.out.mono ?_
  rintro e w1 ⟨G, rfl, ho, hb⟩
  have hFI := (show FldIn w1.heap.size G n C N g (w1.alloc (.cells #[.int .i64 n, .int .i64 C, .slice (some ⟨G, 0, none⟩) N N] 47)) from
    ⟨FldAt.new w1 n C _, (ho.below (Below.alloc (Below.refl _ _) (Nat.le_refl _) _)).row⟩)
  have hBA := (hb.trans ((Below.alloc (Below.refl w1.heap.size w1) (Nat.le_refl _) (.cells #[.int .i64 n, .int .i64 C, .slice (some ⟨G, 0, none⟩) N N] 47)).mono hb.size))
  clear hb ho
  obtain ⟨W, hW⟩ : ∃ W, W = w1.alloc (.cells #[.int .i64 n, .int .i64 C, .slice (some ⟨G, 0, none⟩) N N] 47) := ⟨_, rfl⟩
  rw [← hW] at hFI hBA
  have HW := Lib.hid hW
  have HFI := Lib.hid hFI
  have HBA := Lib.hid hBA
  have HMd := Lib.hid (show Calls Try.prog 39 #[.int .i64 (n : Nat), .int .i64 (C : Nat), .func (.func 40) #[] #[.pointer (some ⟨w1.heap.size, 0, none⟩)]] W (Made (fun r c => cellG g r (C - 1 - c)) (n) (C) W) from
    madeMirror_any (n) (C) w1.heap.size _ W (by omega) (by omega) (by omega) (by omega) (fun wx r c hb hr hc => mirror1_any w1.heap.size G n C N g r c wx (HFI.out.below hb) HNN.out g2 g4 hr hc))
  rw [hW] at HMd
  clear hW hFI hBA
  go_wp2_with fail
  with_reducible refine HMd.out.mono ?_
  rintro e w2 ⟨hmk, hb⟩
  have HB2 := Lib.hid (HBA.out.trans ((show Below W.heap.size W w2 by rw [HW.out]; exact hb).mono HBA.out.size))
  clear hb
  have hmk2 : ∃ ad cp, e = .returned (.tuple #[.slice ad (n) cp, .bool true]) ∧ MRow w2 (.slice ad (n) cp) (gridF (fun r c => cellG g r (C - 1 - c)) (n) (C)) := by
    rcases hmk with ⟨-, h⟩ | ⟨⟨r, c, h1, h2, h3⟩, -⟩
    · exact h
    · have := HCe.out r (C - 1 - c) h1 (by omega)
      rw [show htB (cellG g r (C - 1 - c)) = true from ht_iff.2 this] at h3
      cases h3
  clear hmk
  obtain ⟨ad, cp, rfl, hM⟩ := hmk2
  have HM := Lib.hid hM
  clear hM
  go_wp2
  go_ret2
  exact ⟨ad, cp, rfl, by have q := HM.out; exact q, HB2.out⟩


set_option maxHeartbeats 1000000 in
theorem iraise_any (v : Value) (g : List (List Int)) (w : World) (hr : MRow w v g) (hv : gvalB g = true) (hn : g.length ≤ 1048576) (hm : tot g ≤ 1048576) :
    Calls Try.prog 24 #[v, .int .i64 1] w (fun e w' => ((∀ r c, r < g.length → c < colsG g → htB (cellG g r c + 1) = true) ∧ ∃ ad c, e = .returned (.tuple #[.slice ad (g.length) c, .bool true]) ∧ MRow w' (.slice ad (g.length) c) (gridF (fun r c => cellG g r c + 1) g.length (colsG g)) ∧ Below w.heap.size w w') ∨ (∃ r c, r < g.length ∧ c < colsG g ∧ htB (cellG g r c + 1) = false) ∧ e = .returned (.tuple #[.slice none 0 0, .bool false]) ∧ Below w.heap.size w w') := by
  obtain ⟨g1, g2, g3, g4⟩ := gval_rows hv
  obtain ⟨n, hN⟩ : ∃ n, n = g.length := ⟨_, rfl⟩
  obtain ⟨C, hC⟩ : ∃ C, C = colsG g := ⟨_, rfl⟩
  obtain ⟨N, hNN⟩ : ∃ N, N = n * C := ⟨_, rfl⟩
  have hwK := Below.alloc (Below.refl w.heap.size w) (Nat.le_refl _) (.cells #[.int .i64 1] 3)
  have hkK : (w.alloc (.cells #[.int .i64 1] 3)).cell? ⟨w.heap.size, 0, none⟩ = some (.int .i64 1) := by rw [cell_of_row _ w.heap.size 0 _ _ (0, 0) (heap_alloc_new w _)]; rfl
  have hF0 := fld_yes (hr.below hwK) hv n C N hN hC hNN hn hm
  have HF := Lib.hid hF0
  have HKb := Lib.hid hwK
  have HKc := Lib.hid hkK
  have lkK := World.block_lt_of_cell? _ _ hkK
  clear hF0 hwK hkK
  obtain ⟨a, cap, rfl⟩ := hr.shape
  have HCe := Lib.hid (fun r c (hr : r < n) (hc : c < C) => gval_cell hv r c (by omega) (by omega))
  rw [← hN] at HF g1 g2 ⊢
  rw [← hC] at g3 g4 ⊢
  have HNN := Lib.hid hNN
  have HN := Lib.hid hN
  have HC := Lib.hid hC
  have hmf : ∀ (fn : Fn) (first cap : Array Value) (w : World), (Instr.makeFunc fn first cap).run Try.prog w = .ok (.func fn first cap) w := fun _ _ _ _ => rfl
  clear hr hv hN hC hNN hn hm
  go_enter Try.func24, Try.ntmps24
  go_wp2_with fail
  with_reducible refine HF.out.mono ?_
  rintro e w1 ⟨G, rfl, ho, hb⟩
  have hFI := (show FldIn w1.heap.size G n C N g (w1.alloc (.cells #[.int .i64 n, .int .i64 C, .slice (some ⟨G, 0, none⟩) N N] 47)) from
    ⟨FldAt.new w1 n C _, (ho.below (Below.alloc (Below.refl _ _) (Nat.le_refl _) _)).row⟩)
  have hBA := (hb.trans ((Below.alloc (Below.refl w1.heap.size w1) (Nat.le_refl _) (.cells #[.int .i64 n, .int .i64 C, .slice (some ⟨G, 0, none⟩) N N] 47)).mono hb.size))
  clear hb ho
  obtain ⟨W, hW⟩ : ∃ W, W = w1.alloc (.cells #[.int .i64 n, .int .i64 C, .slice (some ⟨G, 0, none⟩) N N] 47) := ⟨_, rfl⟩
  rw [← hW] at hFI hBA
  have HW := Lib.hid hW
  have HFI := Lib.hid hFI
  have HBA := Lib.hid (HKb.out.trans (hBA.mono (HKb.out.size)))
  have HK2 := Lib.hid ((hBA.cell (p := ⟨w.heap.size, 0, none⟩) lkK).trans HKc.out)
  have HMd := Lib.hid (show Calls Try.prog 39 #[.int .i64 (n : Nat), .int .i64 (C : Nat), .func (.func 43) #[] #[.pointer (some ⟨w1.heap.size, 0, none⟩), .pointer (some ⟨w.heap.size, 0, none⟩)]] W (Made (fun r c => cellG g r c + 1) (n) (C) W) from
    madeRaise_any (n) (C) w1.heap.size w.heap.size _ W (by omega) (by omega) (by omega) (by omega) (fun wx r c hb hr hc => raise1_any w1.heap.size w.heap.size G n C N g r c wx (HFI.out.below hb) ((hb.cell (p := ⟨w.heap.size, 0, none⟩) (World.block_lt_of_cell? _ _ HK2.out)).trans HK2.out) HNN.out g2 g4 hr hc (HCe.out r c hr hc)))
  rw [hW] at HMd
  have hk9 := HK2.out
  rw [hW] at hk9
  clear hW hFI hBA
  go_wp2_with fail
  with_reducible refine HMd.out.mono ?_
  rintro e w2 ⟨hmk, hb⟩
  have HB2 := Lib.hid (HBA.out.trans ((show Below W.heap.size W w2 by rw [HW.out]; exact hb).mono HBA.out.size))
  clear hb
  rcases hmk with ⟨hall, ad, cp, rfl, hM⟩ | ⟨hno, rfl⟩
  · have HM := Lib.hid hM
    have HAll := Lib.hid hall
    clear hM hall
    go_wp2
    go_ret2
    exact .inl ⟨HAll.out, ad, cp, rfl, HM.out, HB2.out⟩
  · have HNo := Lib.hid hno
    clear hno
    go_wp2
    go_ret2
    exact .inr ⟨HNo.out, rfl, HB2.out⟩


end Go.Proofs.Ytjpcbegndnbeeaa
