/- Contract: put of the program's pile. -/
import Derived.Test.YtkhhloeemecokaaPile
import Derived.Deep.RegionHeld3
import Derived.Deep.CutRange
namespace Go.Proofs.Ytkhhloeemecokaa
open Go.RowKit
set_option linter.unusedVariables false

/-- What a call leaves of the world that writes a pile: all but its block and its items' old block. -/
def KeepP (w w' : World) (Bp : Nat) (r : Option Nat) : Prop := w'.os = w.os ∧ w'.tape = w.tape ∧ w'.output = w.output ∧ w.heap.size ≤ w'.heap.size ∧ ∀ k, k < w.heap.size → k ≠ Bp → r ≠ some k → w'.heap[k]? = w.heap[k]?
theorem grown_setP (w : World) (g j : Nat) (x : Value) : w.grownBy (w.setCell ⟨g, j, none⟩ x) (some g) :=
  ⟨rfl, rfl, rfl, by simp, fun k _ hk => heap_setCell_other w ⟨g, j, none⟩ k x (fun e => hk (by simp [e]))⟩
theorem KeepP.refl (w : World) (Bp : Nat) (r : Option Nat) : KeepP w w Bp r := ⟨rfl, rfl, rfl, Nat.le_refl _, fun _ _ _ _ => rfl⟩
theorem KeepP.below {w w1 w2 : World} {Bp : Nat} {r : Option Nat} (h : KeepP w w1 Bp r) (hb : Below w1.heap.size w1 w2) : KeepP w w2 Bp r :=
  ⟨hb.os.trans h.1, hb.tape.trans h.2.1, hb.output.trans h.2.2.1, Nat.le_trans h.2.2.2.1 hb.size, fun k h1 h2 h3 => (hb.block k (Nat.lt_of_lt_of_le h1 h.2.2.2.1)).trans (h.2.2.2.2 k h1 h2 h3)⟩
/-- The pile's block or its items are written. -/
theorem KeepP.grown {w w1 w2 : World} {Bp : Nat} {r s : Option Nat} (h : KeepP w w1 Bp r) (hg : w1.grownBy w2 s) (hs : ∀ k, s = some k → k = Bp ∨ r = some k ∨ w.heap.size ≤ k) : KeepP w w2 Bp r :=
  ⟨hg.os.trans h.1, hg.tape.trans h.2.1, hg.output.trans h.2.2.1, Nat.le_trans h.2.2.2.1 hg.size, fun k h1 h2 h3 => (hg.block k (Nat.lt_of_lt_of_le h1 h.2.2.2.1) (fun e => by
    rcases hs k e.symm with q | q | q
    · exact h2 q
    · exact h3 q
    · omega)).trans (h.2.2.2.2 k h1 h2 h3)⟩
theorem KeepP.under {w w' : World} {Bp B : Nat} {r : Option Nat} (h : KeepP w w' Bp r) (h1 : B ≤ Bp) (h2 : ∀ k, r = some k → B ≤ k) (h3 : B ≤ w.heap.size) : Below B w w' :=
  ⟨h.1, h.2.1, h.2.2.1, h.2.2.2.1, fun k hk => h.2.2.2.2 k (by omega) (by omega) (fun e => by have := h2 k e; omega)⟩
theorem KeepP.field {w w' : World} {Bp B R C : Nat} {r : Option Nat} {s : Value} (h : KeepP w w' Bp r) (hf : w.heap[B]? = w.heap[B]?) (hB : B < w.heap.size) (h1 : B ≠ Bp) (h2 : r ≠ some B) : w'.heap[B]? = w.heap[B]? := h.2.2.2.2 B hB h1 h2
/-- Behind the append. -/
def PutMid (w : World) (Bp B : Nat) (v : Value) (L : List (Int × Int)) (x : Int × Int) (n : Nat) (wx : World) : Prop :=
  ∃ g c2, PileAt Bp B (.slice (some ⟨g, 0, none⟩) (n + 1) c2) (L ++ [x]) wx ∧ (v.ownBlock = some g ∨ w.heap.size ≤ g) ∧ KeepP w wx Bp v.ownBlock
/-- What put gives. -/
def GivesPut (Bp B : Nat) (v : Value) (L : List (Int × Int)) (x : Int × Int) (w : World) (e : Ending) (w' : World) : Prop :=
  ∃ v' L', e = .returned (.tuple #[]) ∧ PileAt Bp B v' L' w' ∧ Heap L' ∧ L'.Perm (x :: L) ∧ (∀ k, v'.ownBlock = some k → v.ownBlock = some k ∨ w.heap.size ≤ k) ∧ KeepP w w' Bp v.ownBlock

theorem OwnP.half {w : World} {B g n cap : Nat} {L : List (Int × Int)} (h : OwnP w B (.slice (some ⟨g, 0, none⟩) n cap) L) (i : Nat) (hi : i < n) (x : Value) :
    (w.setCell ⟨g, i * 2, none⟩ x).cell? ⟨g, i * 2 + 1, none⟩ = some (.int .i64 (at2 L i).2) ∧ (w.setCell ⟨g, i * 2, none⟩ x).frozen? ⟨g, i * 2 + 1, none⟩ = false := by
  obtain rfl := h.len
  have h1 := World.ownsRow.stored h (i * 2) x
  refine ⟨?_, World.ownsRow.frozenAt h1.1 _⟩
  rw [World.ownsRow.cellAt h1.1 (i * 2 + 1) (by omega), List.getElem?_set_ne (by omega)]
  exact (cellsL_get L i hi).2
theorem PileAt.store {Bp B g n cap : Nat} {L : List (Int × Int)} {w : World} (h : PileAt Bp B (.slice (some ⟨g, 0, none⟩) n cap) L w) (i : Nat) (hi : i < n) (x : Int × Int) : PileAt Bp B (.slice (some ⟨g, 0, none⟩) n cap) (L.set i x) ((w.setCell ⟨g, i * 2, none⟩ (.int .i64 x.1)).setCell ⟨g, i * 2 + 1, none⟩ (.int .i64 x.2)) ∧ w.grownBy ((w.setCell ⟨g, i * 2, none⟩ (.int .i64 x.1)).setCell ⟨g, i * 2 + 1, none⟩ (.int .i64 x.2)) (some g) := by
  have h1 := h.2.store i hi x
  refine ⟨⟨?_, h1.1⟩, h1.2⟩
  rw [h1.2.block Bp h.cells.1 (fun e => h.ne (by rw [e]; rfl))]
  exact h.1

set_option maxHeartbeats 4000000 in
theorem put_any (Bp B : Nat) (v : Value) (L : List (Int × Int)) (c p : Int) (w : World) (hp : PileAt Bp B v L w) (hh : Heap L) (hB : B ≤ w.heap.size) (hl : L.length ≤ 100000) :
    Calls Try.prog 68 #[.pointer (some ⟨Bp, 0, none⟩), .agg #[.int .i64 c, .int .i64 p]] w (GivesPut Bp B v L (c, p) w) := by
  obtain ⟨a, cap, rfl⟩ := hp.2.shape
  obtain ⟨n, hn⟩ : ∃ n, n = L.length := ⟨_, rfl⟩
  rw [← hn] at hp hl ⊢
  have hBp := hp.cells.1
  have hb0 := Below.alloc (Below.refl w.heap.size w) (Nat.le_refl _) (.cells #[.int .i64 c, .int .i64 p] 71)
  have HP0 := Lib.hid (hp.below hb0)
  have hxb : (w.alloc (.cells #[.int .i64 c, .int .i64 p] 71)).heap[w.heap.size]? = some (.cells #[.int .i64 c, .int .i64 p] 71 (0, 0)) := heap_alloc_new w _
  have hx0 : (w.alloc (.cells #[.int .i64 c, .int .i64 p] 71)).cell? ⟨w.heap.size, 0, none⟩ = some (.int .i64 c) := by rw [cell_of_row _ w.heap.size 0 _ _ (0, 0) hxb]; rfl
  have hx1 : (w.alloc (.cells #[.int .i64 c, .int .i64 p] 71)).cell? ⟨w.heap.size, 1, none⟩ = some (.int .i64 p) := by rw [cell_of_row _ w.heap.size 1 _ _ (0, 0) hxb]; rfl
  have HN := Lib.hid hn
  have HB0 := Lib.hid hb0
  have HH := Lib.hid hh
  have HV := Lib.hid hp.2
  have HNe := Lib.hid hp.ne
  clear hp hn hb0 hh hxb
  go_enter Try.func68, Try.ntmps68
  go_wp2
  obtain ⟨W, hW⟩ : ∃ W, W = w.alloc (.cells #[.int .i64 c, .int .i64 p] 71) := ⟨_, rfl⟩
  rw [← hW] at HP0 HB0 hx0 hx1 ⊢
  have hsz : w.heap.size ≤ W.heap.size := by rw [hW]; simp
  clear hW
  obtain ⟨-, q1, q2, q3, q4⟩ := HP0.out.cells
  go_cut [] from 6 to 15 (fun wx => PutMid w Bp B (.slice a n cap) L (c, p) n wx)
  case first =>
    refine wp_region_held_drew (S := fun wx => wx.cell? ⟨w.heap.size, 0, none⟩ = some (.int .i64 c) ∧ wx.cell? ⟨w.heap.size, 1, none⟩ = some (.int .i64 p)) (by kernel_rfl) (⟨hx0, hx1⟩) (fun hHeld => ?_)
    refine wpAnyH_take (i := 0) (oi := { dst := some 6, op := _, type := _, pos := _, after := _, guard := _ }) (v := ?_) rfl (by kernel_rfl) (by kernel_rfl) (by kernel_rfl) (fun _ _ _ h => h) (Or.inl ⟨by rfl, ?_⟩) (by assumption) ?_
    case refine_2 => ((intro w hSw; (try dsimp only at hSw); go_simp); try with_reducible rfl)
    try simp only [Act.put, List.setIfInBounds_toArray, List.set_cons_zero, List.set_cons_succ]
    refine wpAnyH_take (i := 1) (oi := { dst := some 7, op := _, type := _, pos := _, after := _, guard := _ }) (v := ?_) rfl (by kernel_rfl) (by kernel_rfl) (by kernel_rfl) (fun _ _ _ h => h) (Or.inl ⟨by rfl, ?_⟩) (by assumption) ?_
    case refine_2 => ((intro w hSw; (try dsimp only at hSw); go_simp); try with_reducible rfl)
    try simp only [Act.put, List.setIfInBounds_toArray, List.set_cons_zero, List.set_cons_succ]
    refine wpAnyH_take (i := 2) (oi := { dst := some 8, op := _, type := _, pos := _, after := _, guard := _ }) (v := ?_) rfl (by kernel_rfl) (by kernel_rfl) (by kernel_rfl) (fun _ _ _ h => h) (Or.inl ⟨by rfl, ?_⟩) (by assumption) ?_
    case refine_2 => ((intro w hSw; (try dsimp only at hSw); go_simp); try with_reducible rfl)
    try simp only [Act.put, List.setIfInBounds_toArray, List.set_cons_zero, List.set_cons_succ]
    refine wpAnyH_take (i := 3) (oi := { dst := some 9, op := _, type := _, pos := _, after := _, guard := _ }) (v := ?_) rfl (by kernel_rfl) (by kernel_rfl) (by kernel_rfl) (fun _ _ _ h => h) (Or.inl ⟨by rfl, ?_⟩) (by assumption) ?_
    case refine_2 => ((intro w hSw; (try dsimp only at hSw); go_simp); try with_reducible rfl)
    try simp only [Act.put, List.setIfInBounds_toArray, List.set_cons_zero, List.set_cons_succ]
    refine wpAnyH_take (i := 5) (oi := { dst := some 11, op := _, type := _, pos := _, after := _, guard := _ }) (v := ?_) rfl (by kernel_rfl) (by kernel_rfl) (by kernel_rfl) (fun _ _ _ h => h) (Or.inl ⟨by rfl, ?_⟩) (by assumption) ?_
    case refine_2 => ((intro w hSw; (try dsimp only at hSw); go_simp); try with_reducible rfl)
    try simp only [Act.put, List.setIfInBounds_toArray, List.set_cons_zero, List.set_cons_succ]
    have hb1 := below_drewN (Below.alloc (Below.refl W.heap.size W) (Nat.le_refl _) (.cells #[.int .i64 c, .int .i64 p] 71)) 1
    have HP1 := Lib.hid (HP0.out.below hb1)
    have s1 := (hb1.cell (p := ⟨Bp, 1, none⟩) HP0.out.cells.1).trans q2
    have s2 := (hb1.cell (p := ⟨w.heap.size, 0, none⟩) (World.block_lt_of_cell? _ _ hx0)).trans hx0
    have s3 := (hb1.cell (p := ⟨w.heap.size, 1, none⟩) (World.block_lt_of_cell? _ _ hx1)).trans hx1
    have HK1 := Lib.hid ((KeepP.refl w Bp (Value.slice a n cap).ownBlock).below HB0.out |>.below hb1)
    have HLn := Lib.hid (show n + 1 = L.length + 1 by rw [HN.out])
    have hBs : B ≤ ((W.alloc (.cells #[.int .i64 c, .int .i64 p] 71)).drewN 1).heap.size := Nat.le_trans hB (Nat.le_trans hsz hb1.size)
    have s1a : (W.alloc (.cells #[.int .i64 c, .int .i64 p] 71)).cell? ⟨Bp, 1, none⟩ = some (.slice a n cap) := s1
    clear hb1
    refine wpAnyH_ready (rs := [4, 6]) (by kernel_rfl) (by simp) ?_
    refine AllReadyH.cons (o := { dst := some 10, op := _, type := _, pos := _, after := _, guard := _ }) rfl (fun K hK => ?_) (AllReadyH.cons (o := { dst := some 12, op := _, type := _, pos := _, after := _, guard := _ }) rfl (fun K hK => ?_) AllReadyH.nil)
    · skip
      go_simp
      refine hK.out _ _ (⟨hx0, hx1⟩) (fun hHeld => ?_)
      clear hK K
      try simp only [Act.put, List.setIfInBounds_toArray, List.set_cons_zero, List.set_cons_succ]
      refine wpAnyH_ready (rs := [6]) (by kernel_rfl) (by simp) ?_
      refine AllReadyH.cons (o := { dst := some 12, op := _, type := _, pos := _, after := _, guard := _ }) rfl (fun K hK => ?_) AllReadyH.nil
      go_simp
      refine hK.out _ _ (⟨s2, s3⟩) (fun hHeld => ?_)
      clear hK K
      try simp only [Act.put, List.setIfInBounds_toArray, List.set_cons_zero, List.set_cons_succ]
      refine wpAnyH_ready (rs := [7]) (by kernel_rfl) (by simp) ?_
      refine AllReadyH.cons (o := { dst := some 13, op := _, type := _, pos := _, after := _, guard := _ }) rfl (fun K hK => ?_) AllReadyH.nil
      refine appP_step (by rfl) _ _ (by rfl) B (.slice a n cap) L c p W.heap.size (by rfl) (by rfl) (heap_alloc_new W _) HP1.out.2 hBs (n + 1) HLn.out (by have := HN.out; omega) ?_
      intro g c2 w2 ho hg hat hlt
      have hvR : (Value.slice a n cap).ownBlock ≠ some w.heap.size := fun e => by have := (HV.out.lt _ e).2; omega
      have HBk := Lib.hid (show w2.heap[Bp]? = some (.cells #[.func (.func 67) #[] #[], .slice a n cap] 75 (0, 0)) from by rw [hg.block Bp HP1.out.cells.1 (fun e => HNe.out e.symm)]; exact HP1.out.1)
      have t2 := cell_grown hg s2 hvR
      have t3 := cell_grown hg s3 hvR
      have HK2 := Lib.hid (HK1.out.grown hg (fun k e => .inr (.inl e)))
      have HOw := Lib.hid (show OwnP w2 B (.slice (some ⟨g, 0, none⟩) (n + 1) c2) (L ++ [(c, p)]) from ho)
      have HGat := Lib.hid (show (Value.slice a n cap).ownBlock = some g ∨ w.heap.size ≤ g from hat.imp id (fun h => Nat.le_trans hsz (Nat.le_trans (by simp) h)))
      have HGne := Lib.hid (show (Value.slice (some ⟨g, 0, none⟩) (n + 1) c2).ownBlock ≠ some Bp from fun e => by
        simp only [Value.ownBlock, Option.some.injEq] at e
        rcases HGat.out with h | h
        · rw [e] at h; exact HNe.out h
        · omega)
      clear ho hg hat s1 s2 s3 q1 q2 q3 q4 hlt
      refine hK.out _ _ (⟨t2, t3⟩) (fun hHeld => ?_)
      clear hK K
      try simp only [Act.put, List.setIfInBounds_toArray, List.set_cons_zero, List.set_cons_succ]
      refine wpAnyH_take (i := 8) (oi := { dst := some 14, op := _, type := _, pos := _, after := _, guard := _ }) (v := ?_) rfl (by kernel_rfl) (by kernel_rfl) (by kernel_rfl) (fun _ _ _ h => h) (Or.inl ⟨by rfl, ?_⟩) (by assumption) ?_
      case refine_2 => ((intro w hSw; (try dsimp only at hSw); go_simp); try with_reducible rfl)
      try simp only [Act.put, List.setIfInBounds_toArray, List.set_cons_zero, List.set_cons_succ]
      refine wpAnyH_take (i := 9) (oi := { dst := some 15, op := _, type := _, pos := _, after := _, guard := _ }) (v := ?_) rfl (by kernel_rfl) (by kernel_rfl) (by kernel_rfl) (fun _ _ _ h => h) (Or.inl ⟨by rfl, ?_⟩) (by assumption) ?_
      case refine_2 => ((intro w hSw; (try dsimp only at hSw); go_simp); try with_reducible rfl)
      try simp only [Act.put, List.setIfInBounds_toArray, List.set_cons_zero, List.set_cons_succ]
      have HPL := Lib.hid (PileAt.put HBk.out HOw.out HGne.out)
      have HK3 := Lib.hid (HK2.out.grown (s := some Bp) (grown_setP w2 Bp 1 (.slice (some ⟨g, 0, none⟩) (n + 1) c2)) (fun k e => .inl (by simpa using e.symm)))
      obtain ⟨-, q1, q2, q3, q4⟩ := pile_cells HBk.out
      refine wpAnyH_ready (rs := [10]) (by kernel_rfl) (by simp) ?_
      refine AllReadyH.cons (o := { dst := none, op := _, type := _, pos := _, after := _, guard := _ }) rfl (fun K hK => ?_) AllReadyH.nil
      go_simp
      refine hK.out _ _ ((by refine ⟨?_, ?_⟩ <;> (first | (exact cell_grown (grown_setP w2 Bp 1 _) t2 (by simp; omega)) | (exact cell_grown (grown_setP w2 Bp 1 _) t3 (by simp; omega))))) (fun hHeld => ?_)
      clear hK K
      try simp only [Act.put, List.setIfInBounds_toArray, List.set_cons_zero, List.set_cons_succ]
      refine wpAnyH_done (by kernel_rfl) ?_ _
      clear hHeld
      go_wp2
      go_meet
      exact ⟨g, c2, HPL.out, HGat.out, HK3.out⟩
    · skip
      go_simp
      refine hK.out _ _ (⟨s2, s3⟩) (fun hHeld => ?_)
      clear hK K
      try simp only [Act.put, List.setIfInBounds_toArray, List.set_cons_zero, List.set_cons_succ]
      refine wpAnyH_ready (rs := [4]) (by kernel_rfl) (by simp) ?_
      refine AllReadyH.cons (o := { dst := some 10, op := _, type := _, pos := _, after := _, guard := _ }) rfl (fun K hK => ?_) AllReadyH.nil
      go_simp
      refine hK.out _ _ (⟨s2, s3⟩) (fun hHeld => ?_)
      clear hK K
      try simp only [Act.put, List.setIfInBounds_toArray, List.set_cons_zero, List.set_cons_succ]
      refine wpAnyH_ready (rs := [7]) (by kernel_rfl) (by simp) ?_
      refine AllReadyH.cons (o := { dst := some 13, op := _, type := _, pos := _, after := _, guard := _ }) rfl (fun K hK => ?_) AllReadyH.nil
      refine appP_step (by rfl) _ _ (by rfl) B (.slice a n cap) L c p W.heap.size (by rfl) (by rfl) (heap_alloc_new W _) HP1.out.2 hBs (n + 1) HLn.out (by have := HN.out; omega) ?_
      intro g c2 w2 ho hg hat hlt
      have hvR : (Value.slice a n cap).ownBlock ≠ some w.heap.size := fun e => by have := (HV.out.lt _ e).2; omega
      have HBk := Lib.hid (show w2.heap[Bp]? = some (.cells #[.func (.func 67) #[] #[], .slice a n cap] 75 (0, 0)) from by rw [hg.block Bp HP1.out.cells.1 (fun e => HNe.out e.symm)]; exact HP1.out.1)
      have t2 := cell_grown hg s2 hvR
      have t3 := cell_grown hg s3 hvR
      have HK2 := Lib.hid (HK1.out.grown hg (fun k e => .inr (.inl e)))
      have HOw := Lib.hid (show OwnP w2 B (.slice (some ⟨g, 0, none⟩) (n + 1) c2) (L ++ [(c, p)]) from ho)
      have HGat := Lib.hid (show (Value.slice a n cap).ownBlock = some g ∨ w.heap.size ≤ g from hat.imp id (fun h => Nat.le_trans hsz (Nat.le_trans (by simp) h)))
      have HGne := Lib.hid (show (Value.slice (some ⟨g, 0, none⟩) (n + 1) c2).ownBlock ≠ some Bp from fun e => by
        simp only [Value.ownBlock, Option.some.injEq] at e
        rcases HGat.out with h | h
        · rw [e] at h; exact HNe.out h
        · omega)
      clear ho hg hat s1 s2 s3 q1 q2 q3 q4 hlt
      refine hK.out _ _ (⟨t2, t3⟩) (fun hHeld => ?_)
      clear hK K
      try simp only [Act.put, List.setIfInBounds_toArray, List.set_cons_zero, List.set_cons_succ]
      refine wpAnyH_take (i := 8) (oi := { dst := some 14, op := _, type := _, pos := _, after := _, guard := _ }) (v := ?_) rfl (by kernel_rfl) (by kernel_rfl) (by kernel_rfl) (fun _ _ _ h => h) (Or.inl ⟨by rfl, ?_⟩) (by assumption) ?_
      case refine_2 => ((intro w hSw; (try dsimp only at hSw); go_simp); try with_reducible rfl)
      try simp only [Act.put, List.setIfInBounds_toArray, List.set_cons_zero, List.set_cons_succ]
      refine wpAnyH_take (i := 9) (oi := { dst := some 15, op := _, type := _, pos := _, after := _, guard := _ }) (v := ?_) rfl (by kernel_rfl) (by kernel_rfl) (by kernel_rfl) (fun _ _ _ h => h) (Or.inl ⟨by rfl, ?_⟩) (by assumption) ?_
      case refine_2 => ((intro w hSw; (try dsimp only at hSw); go_simp); try with_reducible rfl)
      try simp only [Act.put, List.setIfInBounds_toArray, List.set_cons_zero, List.set_cons_succ]
      have HPL := Lib.hid (PileAt.put HBk.out HOw.out HGne.out)
      have HK3 := Lib.hid (HK2.out.grown (s := some Bp) (grown_setP w2 Bp 1 (.slice (some ⟨g, 0, none⟩) (n + 1) c2)) (fun k e => .inl (by simpa using e.symm)))
      obtain ⟨-, q1, q2, q3, q4⟩ := pile_cells HBk.out
      refine wpAnyH_ready (rs := [10]) (by kernel_rfl) (by simp) ?_
      refine AllReadyH.cons (o := { dst := none, op := _, type := _, pos := _, after := _, guard := _ }) rfl (fun K hK => ?_) AllReadyH.nil
      go_simp
      refine hK.out _ _ ((by refine ⟨?_, ?_⟩ <;> (first | (exact cell_grown (grown_setP w2 Bp 1 _) t2 (by simp; omega)) | (exact cell_grown (grown_setP w2 Bp 1 _) t3 (by simp; omega))))) (fun hHeld => ?_)
      clear hK K
      try simp only [Act.put, List.setIfInBounds_toArray, List.set_cons_zero, List.set_cons_succ]
      refine wpAnyH_done (by kernel_rfl) ?_ _
      clear hHeld
      go_wp2
      go_meet
      exact ⟨g, c2, HPL.out, HGat.out, HK3.out⟩
  case rest =>
    obtain ⟨g, c2, hpl, hgat, hk⟩ := hcut
    have HPL := Lib.hid hpl
    have HGat := Lib.hid hgat
    have HK := Lib.hid hk
    clear hpl hgat hk HP0 hx0 hx1 q1 q2 q3 q4
    have HU0 := Lib.hid (show HeapUp (L ++ [(c, p)]) n from by rw [HN.out]; exact up_start HH.out (c, p))
    have HLn := Lib.hid (show (L ++ [(c, p)]).length = n + 1 by rw [List.length_append, HN.out]; rfl)
    have HPm := Lib.hid (List.Perm.refl (L ++ [(c, p)]))
    obtain ⟨L0, hL0⟩ : ∃ L0, L0 = L ++ [(c, p)] := ⟨_, rfl⟩
    have HL0 := Lib.hid hL0
    rw [← hL0] at HPL HU0 HLn HPm
    clear hL0
    obtain ⟨q0, q1, q2, q3, q4⟩ := HPL.out.cells
    go_wp2
    go_loopw [4] (fun s wr => ∃ (i : Nat) (L1 : List (Int × Int)), i ≤ n ∧ s = .int .i64 i ∧ L1.length = n + 1 ∧ HeapUp L1 i ∧ L1.Perm L0 ∧ PileAt Bp B (.slice (some ⟨g, 0, none⟩) (n + 1) c2) L1 wr ∧ KeepP w wr Bp (Value.slice a n cap).ownBlock) (fun s _ => (intOf s).toNat)
    case atStart => exact ⟨n, L0, Nat.le_refl _, rfl, HLn.out, HU0.out, HPm.out, HPL.out, HK.out⟩
    case round =>
      obtain ⟨i, L1, hi, rfl, hl1, hu1, hp1, hpl1, hk1⟩ := hrel
      have HL1 := Lib.hid hl1
      have HU1 := Lib.hid hu1
      have HP1 := Lib.hid hp1
      have HPL1 := Lib.hid hpl1
      have HK1 := Lib.hid hk1
      clear HPL HK HU0 HPm HLn hl1 hu1 hp1 hpl1 hk1 q0 q1 q2 q3 q4
      obtain ⟨q0, q1, q2, q3, q4⟩ := HPL1.out.cells
      by_cases c0 : i = 0
      · subst c0
        go_wp2
        (try simp only [Exit.inBlock, Exit.then])
        first | (refine bodyPost_ret (results_none rfl _ _ _) rfl ?_) | (refine bodyPost_end (results_none rfl _ _ _) rfl ?_)
        refine ⟨_, L1, rfl, HPL1.out, up_done HU1.out (.inl rfl), (HP1.out.trans (by rw [HL0.out]; exact List.perm_append_comm)), fun k e => ?_, HK1.out⟩
        simp only [Value.ownBlock, Option.some.injEq] at e
        subst e
        exact HGat.out
      · have d0 : (0 : Int) < (i : Int) := by omega
        go_wp2
        obtain ⟨u, hu⟩ : ∃ u, u = (i - 1) / 2 := ⟨_, rfl⟩
        have hu2 : ((i : Int) - 1) / 2 = (u : Int) := by omega
        rw [hu2]
        have hiL : i < L1.length := by rw [HL1.out]; omega
        have huL : u < L1.length := by omega
        have hun : u ≤ n := by omega
        have HU := Lib.hid hu
        clear hu hu2
        obtain ⟨i1, i2, i3, i4⟩ := HPL1.out.2.cells i (by omega)
        obtain ⟨u1, u2, u3, u4⟩ := HPL1.out.2.cells u (by omega)
        have d1 : (i : Int) < (n : Int) + 1 := by omega
        have d2 : (u : Int) < (n : Int) + 1 := by omega
        obtain ⟨ci, hci⟩ : ∃ x, x = (at2 L1 i).1 := ⟨_, rfl⟩
        obtain ⟨pi, hpi⟩ : ∃ x, x = (at2 L1 i).2 := ⟨_, rfl⟩
        obtain ⟨cu, hcu⟩ : ∃ x, x = (at2 L1 u).1 := ⟨_, rfl⟩
        obtain ⟨pu, hpu⟩ : ∃ x, x = (at2 L1 u).2 := ⟨_, rfl⟩
        rw [← hci] at i1
        rw [← hpi] at i2
        rw [← hcu] at u1
        rw [← hpu] at u2
        have HCi := Lib.hid hci
        have HPi := Lib.hid hpi
        have HCu := Lib.hid hcu
        have HPu := Lib.hid hpu
        clear hci hpi hcu hpu
        refine wp_region_held_drew (S := fun wx => wx.cell? ⟨Bp, 0, none⟩ = some (.func (.func 67) #[] #[]) ∧ wx.cell? ⟨Bp, 1, none⟩ = some (.slice (some ⟨g, 0, none⟩) (n + 1) c2) ∧ wx.cell? ⟨g, i * 2, none⟩ = some (.int .i64 ci) ∧ wx.cell? ⟨g, i * 2 + 1, none⟩ = some (.int .i64 pi) ∧ wx.cell? ⟨g, u * 2, none⟩ = some (.int .i64 cu) ∧ wx.cell? ⟨g, u * 2 + 1, none⟩ = some (.int .i64 pu)) (by kernel_rfl) (⟨q1, q2, i1, i2, u1, u2⟩) (fun hHeld => ?_)
        refine wpAnyH_take (i := 0) (oi := { dst := some 27, op := _, type := _, pos := _, after := _, guard := _ }) (v := ?_) rfl (by kernel_rfl) (by kernel_rfl) (by kernel_rfl) (fun _ _ _ h => h) (Or.inl ⟨by rfl, ?_⟩) (by assumption) ?_
        case refine_2 => ((intro w hSw; (try dsimp only at hSw); go_simp); try with_reducible rfl)
        try simp only [Act.put, List.setIfInBounds_toArray, List.set_cons_zero, List.set_cons_succ]
        refine wpAnyH_take (i := 1) (oi := { dst := some 28, op := _, type := _, pos := _, after := _, guard := _ }) (v := ?_) rfl (by kernel_rfl) (by kernel_rfl) (by kernel_rfl) (fun _ _ _ h => h) (Or.inl ⟨by rfl, ?_⟩) (by assumption) ?_
        case refine_2 => ((intro w hSw; (try dsimp only at hSw); go_simp); try with_reducible rfl)
        try simp only [Act.put, List.setIfInBounds_toArray, List.set_cons_zero, List.set_cons_succ]
        refine wpAnyH_take (i := 2) (oi := { dst := some 29, op := _, type := _, pos := _, after := _, guard := _ }) (v := ?_) rfl (by kernel_rfl) (by kernel_rfl) (by kernel_rfl) (fun _ _ _ h => h) (Or.inl ⟨by rfl, ?_⟩) (by assumption) ?_
        case refine_2 => ((intro w hSw; (try dsimp only at hSw); go_simp); try with_reducible rfl)
        try simp only [Act.put, List.setIfInBounds_toArray, List.set_cons_zero, List.set_cons_succ]
        refine wpAnyH_take (i := 3) (oi := { dst := some 30, op := _, type := _, pos := _, after := _, guard := _ }) (v := ?_) rfl (by kernel_rfl) (by kernel_rfl) (by kernel_rfl) (fun _ _ _ h => h) (Or.inl ⟨by rfl, ?_⟩) (by assumption) ?_
        case refine_2 => ((intro w hSw; (try dsimp only at hSw); go_simp); try with_reducible rfl)
        try simp only [Act.put, List.setIfInBounds_toArray, List.set_cons_zero, List.set_cons_succ]
        refine wpAnyH_take (i := 4) (oi := { dst := some 31, op := _, type := _, pos := _, after := _, guard := _ }) (v := ?_) rfl (by kernel_rfl) (by kernel_rfl) (by kernel_rfl) (fun _ _ _ h => h) (Or.inl ⟨by rfl, ?_⟩) (by assumption) ?_
        case refine_2 => ((intro w hSw; (try dsimp only at hSw); go_simp); try with_reducible rfl)
        try simp only [Act.put, List.setIfInBounds_toArray, List.set_cons_zero, List.set_cons_succ]
        refine wpAnyH_take (i := 5) (oi := { dst := some 32, op := _, type := _, pos := _, after := _, guard := _ }) (v := ?_) rfl (by kernel_rfl) (by kernel_rfl) (by kernel_rfl) (fun _ _ _ h => h) (Or.inl ⟨by rfl, ?_⟩) (by assumption) ?_
        case refine_2 => ((intro w hSw; (try dsimp only at hSw); go_simp); try with_reducible rfl)
        try simp only [Act.put, List.setIfInBounds_toArray, List.set_cons_zero, List.set_cons_succ]
        refine wpAnyH_take (i := 6) (oi := { dst := some 33, op := _, type := _, pos := _, after := _, guard := _ }) (v := ?_) rfl (by kernel_rfl) (by kernel_rfl) (by kernel_rfl) (fun _ _ _ h => h) (Or.inl ⟨by rfl, ?_⟩) (by assumption) ?_
        case refine_2 => ((intro w hSw; (try dsimp only at hSw); go_simp); try with_reducible rfl)
        try simp only [Act.put, List.setIfInBounds_toArray, List.set_cons_zero, List.set_cons_succ]
        refine wpAnyH_take (i := 7) (oi := { dst := some 34, op := _, type := _, pos := _, after := _, guard := _ }) (v := ?_) rfl (by kernel_rfl) (by kernel_rfl) (by kernel_rfl) (fun _ _ _ h => h) (Or.inl ⟨by rfl, ?_⟩) (by assumption) ?_
        case refine_2 => ((intro w hSw; (try dsimp only at hSw); go_simp); try with_reducible rfl)
        try simp only [Act.put, List.setIfInBounds_toArray, List.set_cons_zero, List.set_cons_succ]
        refine wpAnyH_take (i := 8) (oi := { dst := some 35, op := _, type := _, pos := _, after := _, guard := _ }) (v := ?_) rfl (by kernel_rfl) (by kernel_rfl) (by kernel_rfl) (fun _ _ _ h => h) (Or.inl ⟨by rfl, ?_⟩) (by assumption) ?_
        case refine_2 => ((intro w hSw; (try dsimp only at hSw); go_simp); try with_reducible rfl)
        try simp only [Act.put, List.setIfInBounds_toArray, List.set_cons_zero, List.set_cons_succ]
        refine wpAnyH_take (i := 9) (oi := { dst := some 36, op := _, type := _, pos := _, after := _, guard := _ }) (v := ?_) rfl (by kernel_rfl) (by kernel_rfl) (by kernel_rfl) (fun _ _ _ h => h) (Or.inl ⟨by rfl, ?_⟩) (by assumption) ?_
        case refine_2 => ((intro w hSw; (try dsimp only at hSw); go_simp); try with_reducible rfl)
        try simp only [Act.put, List.setIfInBounds_toArray, List.set_cons_zero, List.set_cons_succ]
        refine wpAnyH_take (i := 10) (oi := { dst := some 37, op := _, type := _, pos := _, after := _, guard := _ }) (v := ?_) rfl (by kernel_rfl) (by kernel_rfl) (by kernel_rfl) (fun _ _ _ h => h) (Or.inl ⟨by rfl, ?_⟩) (by assumption) ?_
        case refine_2 => ((intro w hSw; (try dsimp only at hSw); go_simp); try with_reducible rfl)
        try simp only [Act.put, List.setIfInBounds_toArray, List.set_cons_zero, List.set_cons_succ]
        refine wpAnyH_take (i := 11) (oi := { dst := some 38, op := _, type := _, pos := _, after := _, guard := _ }) (v := ?_) rfl (by kernel_rfl) (by kernel_rfl) (by kernel_rfl) (fun _ _ _ h => h) (Or.inl ⟨by rfl, ?_⟩) (by assumption) ?_
        case refine_2 => ((intro w hSw; (try dsimp only at hSw); go_simp); try with_reducible rfl)
        try simp only [Act.put, List.setIfInBounds_toArray, List.set_cons_zero, List.set_cons_succ]
        refine wpAnyH_take (i := 12) (oi := { dst := some 39, op := _, type := _, pos := _, after := _, guard := _ }) (v := ?_) rfl (by kernel_rfl) (by kernel_rfl) (by kernel_rfl) (fun _ _ _ h => h) (Or.inl ⟨by rfl, ?_⟩) (by assumption) ?_
        case refine_2 => ((intro w hSw; (try dsimp only at hSw); go_simp); try with_reducible rfl)
        try simp only [Act.put, List.setIfInBounds_toArray, List.set_cons_zero, List.set_cons_succ]
        refine wpAnyH_take (i := 13) (oi := { dst := some 40, op := _, type := _, pos := _, after := _, guard := _ }) (v := ?_) rfl (by kernel_rfl) (by kernel_rfl) (by kernel_rfl) (fun _ _ _ h => h) (Or.inl ⟨by rfl, ?_⟩) (by assumption) ?_
        case refine_2 => ((intro w hSw; (try dsimp only at hSw); go_simp); try with_reducible rfl)
        try simp only [Act.put, List.setIfInBounds_toArray, List.set_cons_zero, List.set_cons_succ]
        refine wpAnyH_take (i := 14) (oi := { dst := some 41, op := _, type := _, pos := _, after := _, guard := _ }) (v := ?_) rfl (by kernel_rfl) (by kernel_rfl) (by kernel_rfl) (fun _ _ _ h => h) (Or.inl ⟨by rfl, ?_⟩) (by assumption) ?_
        case refine_2 => ((intro w hSw; (try dsimp only at hSw); go_simp); try with_reducible rfl)
        try simp only [Act.put, List.setIfInBounds_toArray, List.set_cons_zero, List.set_cons_succ]
        refine wpAnyH_take (i := 15) (oi := { dst := some 42, op := _, type := _, pos := _, after := _, guard := _ }) (v := ?_) rfl (by kernel_rfl) (by kernel_rfl) (by kernel_rfl) (fun _ _ _ h => h) (Or.inl ⟨by rfl, ?_⟩) (by assumption) ?_
        case refine_2 => ((intro w hSw; (try dsimp only at hSw); go_simp); try with_reducible rfl)
        try simp only [Act.put, List.setIfInBounds_toArray, List.set_cons_zero, List.set_cons_succ]
        refine wpAnyH_take (i := 16) (oi := { dst := some 43, op := _, type := _, pos := _, after := _, guard := _ }) (v := ?_) rfl (by kernel_rfl) (by kernel_rfl) (by kernel_rfl) (fun _ _ _ h => h) (Or.inl ⟨by rfl, ?_⟩) (by assumption) ?_
        case refine_2 => ((intro w hSw; (try dsimp only at hSw); go_simp); try with_reducible rfl)
        try simp only [Act.put, List.setIfInBounds_toArray, List.set_cons_zero, List.set_cons_succ]
        refine wpAnyH_take (i := 17) (oi := { dst := some 44, op := _, type := _, pos := _, after := _, guard := _ }) (v := ?_) rfl (by kernel_rfl) (by kernel_rfl) (by kernel_rfl) (fun _ _ _ h => h) (Or.inl ⟨by rfl, ?_⟩) (by assumption) ?_
        case refine_2 => ((intro w hSw; (try dsimp only at hSw); go_simp); try with_reducible rfl)
        try simp only [Act.put, List.setIfInBounds_toArray, List.set_cons_zero, List.set_cons_succ]
        by_cases hlt : pu < pi
        · skip
          refine wpAnyH_ready (rs := [18]) (by kernel_rfl) (by simp) ?_
          refine AllReadyH.cons (o := { dst := some 45, op := _, type := _, pos := _, after := _, guard := _ }) rfl (fun K hK => ?_) AllReadyH.nil
          go_simp
          go_at_call 67
          refine (ahead_yes _ _ _ _ _ hlt).mono ?_
          rintro e w1 ⟨rfl, hb1⟩
          have HB1 := Lib.hid ((below_drewN (Below.refl wr.heap.size wr) 1).trans hb1)
          have q1 := (hb1.cell (p := ⟨Bp, 0, none⟩) q0).trans q1
          have q2 := (hb1.cell (p := ⟨Bp, 1, none⟩) q0).trans q2
          have i1 := (hb1.cell (p := ⟨g, i * 2, none⟩) (World.block_lt_of_cell? _ _ i1)).trans i1
          have i2 := (hb1.cell (p := ⟨g, i * 2 + 1, none⟩) (World.block_lt_of_cell? _ _ i2)).trans i2
          have u1 := (hb1.cell (p := ⟨g, u * 2, none⟩) (World.block_lt_of_cell? _ _ u1)).trans u1
          have u2 := (hb1.cell (p := ⟨g, u * 2 + 1, none⟩) (World.block_lt_of_cell? _ _ u2)).trans u2
          clear hb1
          refine hK.out _ _ (⟨q1, q2, i1, i2, u1, u2⟩) (fun hHeld => ?_)
          clear hK K
          try simp only [Act.put, List.setIfInBounds_toArray, List.set_cons_zero, List.set_cons_succ]
          refine wpAnyH_take (i := 19) (oi := { dst := some 46, op := _, type := _, pos := _, after := _, guard := _ }) (v := ?_) rfl (by kernel_rfl) (by kernel_rfl) (by kernel_rfl) (fun _ _ _ h => h) (Or.inl ⟨by rfl, ?_⟩) (by assumption) ?_
          case refine_2 => ((intro w hSw; (try dsimp only at hSw); go_simp); try with_reducible rfl)
          try simp only [Act.put, List.setIfInBounds_toArray, List.set_cons_zero, List.set_cons_succ]
          refine wpAnyH_done (by kernel_rfl) ?_ _
          clear hHeld
          go_wp2
          have HPL2 := Lib.hid (HPL1.out.below HB1.out)
          have HK2 := Lib.hid (HK1.out.below HB1.out)
          clear HPL1 HK1
          have hiU := Lib.hid hiL
          obtain ⟨-, -, i3, i4⟩ := HPL2.out.2.cells i (by omega)
          obtain ⟨-, -, u3, u4⟩ := HPL2.out.2.cells u (by omega)
          obtain ⟨j1, j2⟩ := HPL2.out.2.half i (by omega) (.int .i64 cu)
          refine wp_region_held_drew (S := fun wx => wx.cell? ⟨Bp, 1, none⟩ = some (.slice (some ⟨g, 0, none⟩) (n + 1) c2)) (by kernel_rfl) (q2) (fun hHeld => ?_)
          refine wpAnyH_take (i := 0) (oi := { dst := some 47, op := _, type := _, pos := _, after := _, guard := _ }) (v := ?_) rfl (by kernel_rfl) (by kernel_rfl) (by kernel_rfl) (fun _ _ _ h => h) (Or.inl ⟨by rfl, ?_⟩) (by assumption) ?_
          case refine_2 => ((intro w hSw; (try dsimp only at hSw); go_simp); try with_reducible rfl)
          try simp only [Act.put, List.setIfInBounds_toArray, List.set_cons_zero, List.set_cons_succ]
          refine wpAnyH_take (i := 1) (oi := { dst := some 48, op := _, type := _, pos := _, after := _, guard := _ }) (v := ?_) rfl (by kernel_rfl) (by kernel_rfl) (by kernel_rfl) (fun _ _ _ h => h) (Or.inl ⟨by rfl, ?_⟩) (by assumption) ?_
          case refine_2 => ((intro w hSw; (try dsimp only at hSw); go_simp); try with_reducible rfl)
          try simp only [Act.put, List.setIfInBounds_toArray, List.set_cons_zero, List.set_cons_succ]
          refine wpAnyH_take (i := 2) (oi := { dst := some 49, op := _, type := _, pos := _, after := _, guard := _ }) (v := ?_) rfl (by kernel_rfl) (by kernel_rfl) (by kernel_rfl) (fun _ _ _ h => h) (Or.inl ⟨by rfl, ?_⟩) (by assumption) ?_
          case refine_2 => ((intro w hSw; (try dsimp only at hSw); go_simp); try with_reducible rfl)
          try simp only [Act.put, List.setIfInBounds_toArray, List.set_cons_zero, List.set_cons_succ]
          refine wpAnyH_take (i := 3) (oi := { dst := some 50, op := _, type := _, pos := _, after := _, guard := _ }) (v := ?_) rfl (by kernel_rfl) (by kernel_rfl) (by kernel_rfl) (fun _ _ _ h => h) (Or.inl ⟨by rfl, ?_⟩) (by assumption) ?_
          case refine_2 => ((intro w hSw; (try dsimp only at hSw); go_simp); try with_reducible rfl)
          try simp only [Act.put, List.setIfInBounds_toArray, List.set_cons_zero, List.set_cons_succ]
          refine wpAnyH_take (i := 4) (oi := { dst := some 51, op := _, type := _, pos := _, after := _, guard := _ }) (v := ?_) rfl (by kernel_rfl) (by kernel_rfl) (by kernel_rfl) (fun _ _ _ h => h) (Or.inl ⟨by rfl, ?_⟩) (by assumption) ?_
          case refine_2 => ((intro w hSw; (try dsimp only at hSw); go_simp); try with_reducible rfl)
          try simp only [Act.put, List.setIfInBounds_toArray, List.set_cons_zero, List.set_cons_succ]
          refine wpAnyH_take (i := 5) (oi := { dst := some 52, op := _, type := _, pos := _, after := _, guard := _ }) (v := ?_) rfl (by kernel_rfl) (by kernel_rfl) (by kernel_rfl) (fun _ _ _ h => h) (Or.inl ⟨by rfl, ?_⟩) (by assumption) ?_
          case refine_2 => ((intro w hSw; (try dsimp only at hSw); go_simp); try with_reducible rfl)
          try simp only [Act.put, List.setIfInBounds_toArray, List.set_cons_zero, List.set_cons_succ]
          refine wpAnyH_take (i := 6) (oi := { dst := some 53, op := _, type := _, pos := _, after := _, guard := _ }) (v := ?_) rfl (by kernel_rfl) (by kernel_rfl) (by kernel_rfl) (fun _ _ _ h => h) (Or.inl ⟨by rfl, ?_⟩) (by assumption) ?_
          case refine_2 => ((intro w hSw; (try dsimp only at hSw); go_simp); try with_reducible rfl)
          try simp only [Act.put, List.setIfInBounds_toArray, List.set_cons_zero, List.set_cons_succ]
          refine wpAnyH_take (i := 7) (oi := { dst := some 54, op := _, type := _, pos := _, after := _, guard := _ }) (v := ?_) rfl (by kernel_rfl) (by kernel_rfl) (by kernel_rfl) (fun _ _ _ h => h) (Or.inl ⟨by rfl, ?_⟩) (by assumption) ?_
          case refine_2 => ((intro w hSw; (try dsimp only at hSw); go_simp); try with_reducible rfl)
          try simp only [Act.put, List.setIfInBounds_toArray, List.set_cons_zero, List.set_cons_succ]
          refine wpAnyH_take (i := 8) (oi := { dst := some 55, op := _, type := _, pos := _, after := _, guard := _ }) (v := ?_) rfl (by kernel_rfl) (by kernel_rfl) (by kernel_rfl) (fun _ _ _ h => h) (Or.inl ⟨by rfl, ?_⟩) (by assumption) ?_
          case refine_2 => ((intro w hSw; (try dsimp only at hSw); go_simp); try with_reducible rfl)
          try simp only [Act.put, List.setIfInBounds_toArray, List.set_cons_zero, List.set_cons_succ]
          refine wpAnyH_take (i := 9) (oi := { dst := some 56, op := _, type := _, pos := _, after := _, guard := _ }) (v := ?_) rfl (by kernel_rfl) (by kernel_rfl) (by kernel_rfl) (fun _ _ _ h => h) (Or.inl ⟨by rfl, ?_⟩) (by assumption) ?_
          case refine_2 => ((intro w hSw; (try dsimp only at hSw); go_simp); try with_reducible rfl)
          try simp only [Act.put, List.setIfInBounds_toArray, List.set_cons_zero, List.set_cons_succ]
          refine wpAnyH_take (i := 10) (oi := { dst := some 57, op := _, type := _, pos := _, after := _, guard := _ }) (v := ?_) rfl (by kernel_rfl) (by kernel_rfl) (by kernel_rfl) (fun _ _ _ h => h) (Or.inl ⟨by rfl, ?_⟩) (by assumption) ?_
          case refine_2 => ((intro w hSw; (try dsimp only at hSw); go_simp); try with_reducible rfl)
          try simp only [Act.put, List.setIfInBounds_toArray, List.set_cons_zero, List.set_cons_succ]
          refine wpAnyH_take (i := 11) (oi := { dst := some 58, op := _, type := _, pos := _, after := _, guard := _ }) (v := ?_) rfl (by kernel_rfl) (by kernel_rfl) (by kernel_rfl) (fun _ _ _ h => h) (Or.inl ⟨by rfl, ?_⟩) (by assumption) ?_
          case refine_2 => ((intro w hSw; (try dsimp only at hSw); go_simp); try with_reducible rfl)
          try simp only [Act.put, List.setIfInBounds_toArray, List.set_cons_zero, List.set_cons_succ]
          refine wpAnyH_take (i := 12) (oi := { dst := some 59, op := _, type := _, pos := _, after := _, guard := _ }) (v := ?_) rfl (by kernel_rfl) (by kernel_rfl) (by kernel_rfl) (fun _ _ _ h => h) (Or.inl ⟨by rfl, ?_⟩) (by assumption) ?_
          case refine_2 => ((intro w hSw; (try dsimp only at hSw); go_simp); try with_reducible rfl)
          try simp only [Act.put, List.setIfInBounds_toArray, List.set_cons_zero, List.set_cons_succ]
          refine wpAnyH_take (i := 13) (oi := { dst := some 60, op := _, type := _, pos := _, after := _, guard := _ }) (v := ?_) rfl (by kernel_rfl) (by kernel_rfl) (by kernel_rfl) (fun _ _ _ h => h) (Or.inl ⟨by rfl, ?_⟩) (by assumption) ?_
          case refine_2 => ((intro w hSw; (try dsimp only at hSw); go_simp); try with_reducible rfl)
          try simp only [Act.put, List.setIfInBounds_toArray, List.set_cons_zero, List.set_cons_succ]
          refine wpAnyH_take (i := 14) (oi := { dst := some 61, op := _, type := _, pos := _, after := _, guard := _ }) (v := ?_) rfl (by kernel_rfl) (by kernel_rfl) (by kernel_rfl) (fun _ _ _ h => h) (Or.inl ⟨by rfl, ?_⟩) (by assumption) ?_
          case refine_2 => ((intro w hSw; (try dsimp only at hSw); go_simp); try with_reducible rfl)
          try simp only [Act.put, List.setIfInBounds_toArray, List.set_cons_zero, List.set_cons_succ]
          refine wpAnyH_take (i := 15) (oi := { dst := some 62, op := _, type := _, pos := _, after := _, guard := _ }) (v := ?_) rfl (by kernel_rfl) (by kernel_rfl) (by kernel_rfl) (fun _ _ _ h => h) (Or.inl ⟨by rfl, ?_⟩) (by assumption) ?_
          case refine_2 => ((intro w hSw; (try dsimp only at hSw); go_simp); try with_reducible rfl)
          try simp only [Act.put, List.setIfInBounds_toArray, List.set_cons_zero, List.set_cons_succ]
          refine wpAnyH_take (i := 17) (oi := { dst := some 64, op := _, type := _, pos := _, after := _, guard := _ }) (v := ?_) rfl (by kernel_rfl) (by kernel_rfl) (by kernel_rfl) (fun _ _ _ h => h) (Or.inl ⟨by rfl, ?_⟩) (by assumption) ?_
          case refine_2 => ((intro w hSw; (try dsimp only at hSw); go_simp); try with_reducible rfl)
          try simp only [Act.put, List.setIfInBounds_toArray, List.set_cons_zero, List.set_cons_succ]
          refine wpAnyH_take (i := 18) (oi := { dst := some 65, op := _, type := _, pos := _, after := _, guard := _ }) (v := ?_) rfl (by kernel_rfl) (by kernel_rfl) (by kernel_rfl) (fun _ _ _ h => h) (Or.inl ⟨by rfl, ?_⟩) (by assumption) ?_
          case refine_2 => ((intro w hSw; (try dsimp only at hSw); go_simp); try with_reducible rfl)
          try simp only [Act.put, List.setIfInBounds_toArray, List.set_cons_zero, List.set_cons_succ]
          refine wpAnyH_take (i := 19) (oi := { dst := some 66, op := _, type := _, pos := _, after := _, guard := _ }) (v := ?_) rfl (by kernel_rfl) (by kernel_rfl) (by kernel_rfl) (fun _ _ _ h => h) (Or.inl ⟨by rfl, ?_⟩) (by assumption) ?_
          case refine_2 => ((intro w hSw; (try dsimp only at hSw); go_simp); try with_reducible rfl)
          try simp only [Act.put, List.setIfInBounds_toArray, List.set_cons_zero, List.set_cons_succ]
          refine wpAnyH_take (i := 20) (oi := { dst := some 67, op := _, type := _, pos := _, after := _, guard := _ }) (v := ?_) rfl (by kernel_rfl) (by kernel_rfl) (by kernel_rfl) (fun _ _ _ h => h) (Or.inl ⟨by rfl, ?_⟩) (by assumption) ?_
          case refine_2 => ((intro w hSw; (try dsimp only at hSw); go_simp); try with_reducible rfl)
          try simp only [Act.put, List.setIfInBounds_toArray, List.set_cons_zero, List.set_cons_succ]
          refine wpAnyH_take (i := 21) (oi := { dst := some 68, op := _, type := _, pos := _, after := _, guard := _ }) (v := ?_) rfl (by kernel_rfl) (by kernel_rfl) (by kernel_rfl) (fun _ _ _ h => h) (Or.inl ⟨by rfl, ?_⟩) (by assumption) ?_
          case refine_2 => ((intro w hSw; (try dsimp only at hSw); go_simp); try with_reducible rfl)
          try simp only [Act.put, List.setIfInBounds_toArray, List.set_cons_zero, List.set_cons_succ]
          refine wpAnyH_take (i := 22) (oi := { dst := some 69, op := _, type := _, pos := _, after := _, guard := _ }) (v := ?_) rfl (by kernel_rfl) (by kernel_rfl) (by kernel_rfl) (fun _ _ _ h => h) (Or.inl ⟨by rfl, ?_⟩) (by assumption) ?_
          case refine_2 => ((intro w hSw; (try dsimp only at hSw); go_simp); try with_reducible rfl)
          try simp only [Act.put, List.setIfInBounds_toArray, List.set_cons_zero, List.set_cons_succ]
          refine wpAnyH_ready (rs := [16, 23]) (by kernel_rfl) (by simp) ?_
          refine AllReadyH.cons (o := { dst := some 63, op := _, type := _, pos := _, after := _, guard := _ }) rfl (fun K hK => ?_) (AllReadyH.cons (o := { dst := some 70, op := _, type := _, pos := _, after := _, guard := _ }) rfl (fun K hK => ?_) AllReadyH.nil)
          · skip
            go_simp
            refine hK.out _ _ (q2) (fun hHeld => ?_)
            clear hK K
            try simp only [Act.put, List.setIfInBounds_toArray, List.set_cons_zero, List.set_cons_succ]
            refine wpAnyH_ready (rs := [23]) (by kernel_rfl) (by simp) ?_
            refine AllReadyH.cons (o := { dst := some 70, op := _, type := _, pos := _, after := _, guard := _ }) rfl (fun K hK => ?_) AllReadyH.nil
            go_simp
            refine hK.out _ _ (q2) (fun hHeld => ?_)
            clear hK K
            try simp only [Act.put, List.setIfInBounds_toArray, List.set_cons_zero, List.set_cons_succ]
            refine wpAnyH_take (i := 24) (oi := { dst := some 71, op := _, type := _, pos := _, after := _, guard := _ }) (v := ?_) rfl (by kernel_rfl) (by kernel_rfl) (by kernel_rfl) (fun _ _ _ h => h) (Or.inl ⟨by rfl, ?_⟩) (by assumption) ?_
            case refine_2 => ((intro w hSw; (try dsimp only at hSw); go_simp); try with_reducible rfl)
            try simp only [Act.put, List.setIfInBounds_toArray, List.set_cons_zero, List.set_cons_succ]
            refine wpAnyH_ready (rs := [25]) (by kernel_rfl) (by simp) ?_
            refine AllReadyH.cons (o := { dst := none, op := _, type := _, pos := _, after := _, guard := _ }) rfl (fun K hK => ?_) AllReadyH.nil
            go_simp
            refine hK.out _ _ ((HPL2.out.store i (by omega) (cu, pu)).1.cells.2.2.1) (fun hHeld => ?_)
            clear hK K
            try simp only [Act.put, List.setIfInBounds_toArray, List.set_cons_zero, List.set_cons_succ]
            have HPL3 := Lib.hid (HPL2.out.store i (by omega) (cu, pu))
            obtain ⟨W2, hW2⟩ : ∃ W2, W2 = (w1.setCell ⟨g, i * 2, none⟩ (.int .i64 cu)).setCell ⟨g, i * 2 + 1, none⟩ (.int .i64 pu) := ⟨_, rfl⟩
            rw [← hW2]
            rw [show (w1.setCell ⟨g, i * 2, none⟩ (.int .i64 cu)).setCell ⟨g, i * 2 + 1, none⟩ (.int .i64 pu) = W2 from hW2.symm] at HPL3
            clear hW2 hHeld
            have hHeld : W2.drew.cell? ⟨Bp, 1, none⟩ = some (.slice (some ⟨g, 0, none⟩) (n + 1) c2) := HPL3.out.1.cells.2.2.1
            obtain ⟨x1, x2, u3, u4⟩ := HPL3.out.1.2.cells u (by omega)
            obtain ⟨j1, j2⟩ := HPL3.out.1.2.half u (by omega) (.int .i64 ci)
            refine wpAnyH_take (i := 26) (oi := { dst := some 72, op := _, type := _, pos := _, after := _, guard := _ }) (v := ?_) rfl (by kernel_rfl) (by kernel_rfl) (by kernel_rfl) (fun _ _ _ h => h) (Or.inl ⟨by rfl, ?_⟩) (by assumption) ?_
            case refine_2 => ((intro w hSw; (try dsimp only at hSw); go_simp); try with_reducible rfl)
            try simp only [Act.put, List.setIfInBounds_toArray, List.set_cons_zero, List.set_cons_succ]
            refine wpAnyH_ready (rs := [27]) (by kernel_rfl) (by simp) ?_
            refine AllReadyH.cons (o := { dst := none, op := _, type := _, pos := _, after := _, guard := _ }) rfl (fun K hK => ?_) AllReadyH.nil
            go_simp
            refine hK.out _ _ ((by first | exact HPL3.out.1.cells.2.2.1 | exact (HPL3.out.1.store u (by omega) (ci, pi)).1.cells.2.2.1)) (fun hHeld => ?_)
            clear hK K
            try simp only [Act.put, List.setIfInBounds_toArray, List.set_cons_zero, List.set_cons_succ]
            have HPL4 := Lib.hid (HPL3.out.1.store u (by omega) (ci, pi)).1
            have hg4 := (HPL3.out.1.store u (by omega) (ci, pi)).2
            refine wpAnyH_done (by kernel_rfl) ?_ _
            clear hHeld
            go_wp2
            have hsw : (L1.set i (cu, pu)).set u (ci, pi) = swapL L1 i u := by rw [HCu.out, HPu.out, HCi.out, HPi.out]; rfl
            have hgg : ∀ k, some g = some k → k = Bp ∨ (Value.slice a n cap).ownBlock = some k ∨ w.heap.size ≤ k := fun k e => by cases e; exact .inr HGat.out
            refine ⟨⟨u, swapL L1 i u, hun, rfl, by rw [swap_len]; exact HL1.out, ?_, (swap_perm L1 hiL huL).trans HP1.out, by rw [← hsw]; exact HPL4.out, ((HK2.out.grown HPL3.out.2 hgg).grown hg4 hgg).below (below_drewN (Below.refl _ _) 1)⟩, ?_⟩
            · have e := HU.out
              subst e
              refine up_step HU1.out (by omega) hiL ?_
              have := HPi.out
              have := HPu.out
              unfold pa
              omega
            · have e := HU.out
              simp [intOf]
              omega
          · skip
            go_simp
            refine hK.out _ _ (q2) (fun hHeld => ?_)
            clear hK K
            try simp only [Act.put, List.setIfInBounds_toArray, List.set_cons_zero, List.set_cons_succ]
            refine wpAnyH_ready (rs := [16]) (by kernel_rfl) (by simp) ?_
            refine AllReadyH.cons (o := { dst := some 63, op := _, type := _, pos := _, after := _, guard := _ }) rfl (fun K hK => ?_) AllReadyH.nil
            go_simp
            refine hK.out _ _ (q2) (fun hHeld => ?_)
            clear hK K
            try simp only [Act.put, List.setIfInBounds_toArray, List.set_cons_zero, List.set_cons_succ]
            refine wpAnyH_take (i := 24) (oi := { dst := some 71, op := _, type := _, pos := _, after := _, guard := _ }) (v := ?_) rfl (by kernel_rfl) (by kernel_rfl) (by kernel_rfl) (fun _ _ _ h => h) (Or.inl ⟨by rfl, ?_⟩) (by assumption) ?_
            case refine_2 => ((intro w hSw; (try dsimp only at hSw); go_simp); try with_reducible rfl)
            try simp only [Act.put, List.setIfInBounds_toArray, List.set_cons_zero, List.set_cons_succ]
            refine wpAnyH_ready (rs := [25]) (by kernel_rfl) (by simp) ?_
            refine AllReadyH.cons (o := { dst := none, op := _, type := _, pos := _, after := _, guard := _ }) rfl (fun K hK => ?_) AllReadyH.nil
            go_simp
            refine hK.out _ _ ((HPL2.out.store i (by omega) (cu, pu)).1.cells.2.2.1) (fun hHeld => ?_)
            clear hK K
            try simp only [Act.put, List.setIfInBounds_toArray, List.set_cons_zero, List.set_cons_succ]
            have HPL3 := Lib.hid (HPL2.out.store i (by omega) (cu, pu))
            obtain ⟨W2, hW2⟩ : ∃ W2, W2 = (w1.setCell ⟨g, i * 2, none⟩ (.int .i64 cu)).setCell ⟨g, i * 2 + 1, none⟩ (.int .i64 pu) := ⟨_, rfl⟩
            rw [← hW2]
            rw [show (w1.setCell ⟨g, i * 2, none⟩ (.int .i64 cu)).setCell ⟨g, i * 2 + 1, none⟩ (.int .i64 pu) = W2 from hW2.symm] at HPL3
            clear hW2 hHeld
            have hHeld : W2.drew.cell? ⟨Bp, 1, none⟩ = some (.slice (some ⟨g, 0, none⟩) (n + 1) c2) := HPL3.out.1.cells.2.2.1
            obtain ⟨x1, x2, u3, u4⟩ := HPL3.out.1.2.cells u (by omega)
            obtain ⟨j1, j2⟩ := HPL3.out.1.2.half u (by omega) (.int .i64 ci)
            refine wpAnyH_take (i := 26) (oi := { dst := some 72, op := _, type := _, pos := _, after := _, guard := _ }) (v := ?_) rfl (by kernel_rfl) (by kernel_rfl) (by kernel_rfl) (fun _ _ _ h => h) (Or.inl ⟨by rfl, ?_⟩) (by assumption) ?_
            case refine_2 => ((intro w hSw; (try dsimp only at hSw); go_simp); try with_reducible rfl)
            try simp only [Act.put, List.setIfInBounds_toArray, List.set_cons_zero, List.set_cons_succ]
            refine wpAnyH_ready (rs := [27]) (by kernel_rfl) (by simp) ?_
            refine AllReadyH.cons (o := { dst := none, op := _, type := _, pos := _, after := _, guard := _ }) rfl (fun K hK => ?_) AllReadyH.nil
            go_simp
            refine hK.out _ _ ((by first | exact HPL3.out.1.cells.2.2.1 | exact (HPL3.out.1.store u (by omega) (ci, pi)).1.cells.2.2.1)) (fun hHeld => ?_)
            clear hK K
            try simp only [Act.put, List.setIfInBounds_toArray, List.set_cons_zero, List.set_cons_succ]
            have HPL4 := Lib.hid (HPL3.out.1.store u (by omega) (ci, pi)).1
            have hg4 := (HPL3.out.1.store u (by omega) (ci, pi)).2
            refine wpAnyH_done (by kernel_rfl) ?_ _
            clear hHeld
            go_wp2
            have hsw : (L1.set i (cu, pu)).set u (ci, pi) = swapL L1 i u := by rw [HCu.out, HPu.out, HCi.out, HPi.out]; rfl
            have hgg : ∀ k, some g = some k → k = Bp ∨ (Value.slice a n cap).ownBlock = some k ∨ w.heap.size ≤ k := fun k e => by cases e; exact .inr HGat.out
            refine ⟨⟨u, swapL L1 i u, hun, rfl, by rw [swap_len]; exact HL1.out, ?_, (swap_perm L1 hiL huL).trans HP1.out, by rw [← hsw]; exact HPL4.out, ((HK2.out.grown HPL3.out.2 hgg).grown hg4 hgg).below (below_drewN (Below.refl _ _) 1)⟩, ?_⟩
            · have e := HU.out
              subst e
              refine up_step HU1.out (by omega) hiL ?_
              have := HPi.out
              have := HPu.out
              unfold pa
              omega
            · have e := HU.out
              simp [intOf]
              omega
        · skip
          refine wpAnyH_ready (rs := [18]) (by kernel_rfl) (by simp) ?_
          refine AllReadyH.cons (o := { dst := some 45, op := _, type := _, pos := _, after := _, guard := _ }) rfl (fun K hK => ?_) AllReadyH.nil
          go_simp
          go_at_call 67
          refine (ahead_no _ _ _ _ _ hlt).mono ?_
          rintro e w1 ⟨rfl, hb1⟩
          have HB1 := Lib.hid ((below_drewN (Below.refl wr.heap.size wr) 1).trans hb1)
          have q1 := (hb1.cell (p := ⟨Bp, 0, none⟩) q0).trans q1
          have q2 := (hb1.cell (p := ⟨Bp, 1, none⟩) q0).trans q2
          have i1 := (hb1.cell (p := ⟨g, i * 2, none⟩) (World.block_lt_of_cell? _ _ i1)).trans i1
          have i2 := (hb1.cell (p := ⟨g, i * 2 + 1, none⟩) (World.block_lt_of_cell? _ _ i2)).trans i2
          have u1 := (hb1.cell (p := ⟨g, u * 2, none⟩) (World.block_lt_of_cell? _ _ u1)).trans u1
          have u2 := (hb1.cell (p := ⟨g, u * 2 + 1, none⟩) (World.block_lt_of_cell? _ _ u2)).trans u2
          clear hb1
          refine hK.out _ _ (⟨q1, q2, i1, i2, u1, u2⟩) (fun hHeld => ?_)
          clear hK K
          try simp only [Act.put, List.setIfInBounds_toArray, List.set_cons_zero, List.set_cons_succ]
          refine wpAnyH_take (i := 19) (oi := { dst := some 46, op := _, type := _, pos := _, after := _, guard := _ }) (v := ?_) rfl (by kernel_rfl) (by kernel_rfl) (by kernel_rfl) (fun _ _ _ h => h) (Or.inl ⟨by rfl, ?_⟩) (by assumption) ?_
          case refine_2 => ((intro w hSw; (try dsimp only at hSw); go_simp); try with_reducible rfl)
          try simp only [Act.put, List.setIfInBounds_toArray, List.set_cons_zero, List.set_cons_succ]
          refine wpAnyH_done (by kernel_rfl) ?_ _
          clear hHeld
          go_wp2
          (try simp only [Exit.inBlock, Exit.then])
          first | (refine bodyPost_ret (results_none rfl _ _ _) rfl ?_) | (refine bodyPost_end (results_none rfl _ _ _) rfl ?_)
          refine ⟨_, L1, rfl, HPL1.out.below HB1.out, up_done HU1.out (.inr ?_), (HP1.out.trans (by rw [HL0.out]; exact List.perm_append_comm)), fun k e => ?_, HK1.out.below HB1.out⟩
          · have := HPi.out
            have := HPu.out
            have := HU.out
            subst this
            unfold pa
            omega
          · simp only [Value.ownBlock, Option.some.injEq] at e
            subst e
            exact HGat.out

end Go.Proofs.Ytkhhloeemecokaa
