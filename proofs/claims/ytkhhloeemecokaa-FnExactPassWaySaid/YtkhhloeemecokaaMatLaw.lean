/- Contracts of szIntSS, toIntSS, eqIntSS, markIntSS. -/
import Derived.Test.YtkhhloeemecokaaMat
import Derived.IntWalk
namespace Go.Proofs.Ytkhhloeemecokaa
open Go.RowKit

theorem szIntS_any (a : Option Addr) (n cap : Nat) (x : Int) (w : World) (hn : n ≤ maxLen) (h0 : 0 ≤ x) (h1 : x ≤ 1048576) :
    Calls Try.prog 46 #[.slice a n cap, .int .i64 x] w fun e w' => e = .returned (.int .i64 (if x - (n : Int) < 0 then -1 else x - n)) ∧ w = w' := by
  unfold maxLen at hn
  by_cases h : x - (n : Int) < 0
  · rw [if_pos h]
    go_enter Try.func46, Try.ntmps46
    go_wp2
    go_ret
    exact ⟨rfl, rfl⟩
  · rw [if_neg h]
    go_enter Try.func46, Try.ntmps46
    go_wp2
    go_ret
    exact ⟨rfl, rfl⟩
set_option maxHeartbeats 400000 in
theorem szIntSS_any (v : Value) (g : List (List Int)) (w : World) (hr : MRow w v g) (hn : g.length ≤ maxLen) (hm : ∀ z ∈ g, z.length ≤ maxLen) :
    Calls Try.prog 19 #[v, .int .i64 1048576] w fun e w' => (∃ r, e = .returned (.int .i64 r) ∧ SzV g 1048576 r) ∧ w = w' := by
  obtain ⟨a, cap, rfl⟩ := hr.shape
  obtain ⟨-, hc⟩ := hr.cells
  obtain ⟨n, hN⟩ : ∃ n, n = g.length := ⟨_, rfl⟩
  rw [← hN] at hc hn ⊢
  have HN := Lib.hid hN; clear hN
  have HC := Lib.hid hc; clear hc hr
  have HM := Lib.hid (show ∀ i, (g.getD i []).length ≤ maxLen from fun i => by
    by_cases h : i < g.length
    · exact hm _ (by rw [List.getD_eq_getElem?_getD, List.getElem?_eq_getElem h]; simp)
    · rw [List.getD_eq_getElem?_getD, List.getElem?_eq_none (by omega)]; simp)
  clear hm
  unfold maxLen at hn
  by_cases hbig : (1048576 : Int) - (n : Int) < 0
  · go_enter Try.func19, Try.ntmps19
    go_wp2
    go_ret
    exact ⟨⟨_, rfl, by omega, by omega, fun h => by omega⟩, rfl⟩
  · have hb2 : n ≤ 1048576 := by omega
    go_enter Try.func19, Try.ntmps19
    go_wp2
    go_loop [1, 5] (fun q i => ∃ k : Nat, ∃ x : Int, k ≤ n ∧ i = .int .i64 k ∧ q = .int .i64 x ∧ 0 ≤ x ∧ x = 1048576 - n - tot (g.take k)) (fun _ i => n - (intOf i).toNat)
    case atStart => exact ⟨0, _, Nat.zero_le _, rfl, rfl, by omega, by simp [tot]⟩
    case round =>
      obtain ⟨k, x, hk, rfl, rfl, hx0, hx⟩ := hrel
      have hx1 : x ≤ 1048576 := by omega
      by_cases hlt : k < n
      · obtain ⟨b, off, u, rfl, hcell, hrow⟩ := HC.out k hlt
        obtain ⟨a', cap', rfl⟩ := hrow.shape
        obtain ⟨m, hm⟩ : ∃ m, m = (g.getD k []).length := ⟨_, rfl⟩
        rw [← hm] at hcell
        have hts := tot_step g k (by have := HN.out; omega)
        rw [← hm] at hts
        have hml : m ≤ maxLen := by rw [hm]; exact HM.out k
        have HS := Lib.hid (fun wx => szIntS_any a' m cap' x wx hml hx0 hx1)
        have HX := Lib.hid (show tot (g.take (k + 1)) = tot (g.take k) + m from hts)
        have HX2 := Lib.hid hx
        clear hm hts hx hml
        by_cases hneg : x - (m : Int) < 0
        · rw [if_pos hneg] at HS
          go_wp2_with (go_at_call 46; refine (HS.out _).mono ?_; rintro e w' ⟨rfl, rfl⟩)
          go_ret
          exact ⟨⟨_, rfl, by omega, by omega, fun h => by omega⟩, rfl⟩
        · rw [if_neg hneg] at HS
          have hneg' : ¬ (x - (m : Int)) < 0 := hneg
          go_wp2_with (go_at_call 46; refine (HS.out _).mono ?_; rintro e w' ⟨rfl, rfl⟩)
          go_round
          case rel => exact ⟨k + 1, _, by omega, by go_num, rfl, by omega, by have := HX.out; have := HX2.out; omega⟩
          case measure => simp [intOf]; omega
      · have hke : k = n := by omega
        subst hke
        have hx' := Lib.hid hx
        clear hx
        go_wp2
        go_ret
        refine ⟨⟨x, rfl, by omega, by omega, fun _ => ?_⟩, rfl⟩
        have h1 := hx'.out
        rw [HN.out, tot_all] at h1
        omega

theorem Try.infoIntS : (Try.prog.info? 28).map (fun i => (i.zero, i.size, i.bytes)) = some (some (.slice none 0 0), 1, 24) := by kernel_rfl
/-- What a call gives that returns a new slice of slices of ints. -/
def GivesM (g : List (List Int)) (w : World) (e : Ending) (w' : World) : Prop :=
  ∃ a cap, e = .returned (.slice a g.length cap) ∧ OwnM w' w.heap.size (.slice a g.length cap) g ∧ Below w.heap.size w w'
theorem GivesM.mk {g : List (List Int)} {w w' : World} {a : Option Addr} {n cap : Nat} (hn : n = g.length) (ho : FillM w' w.heap.size (.slice a n cap) n n g) (hb : Below w.heap.size w w') :
    GivesM g w (.returned (.slice a n cap)) w' := by
  subst hn
  exact ⟨a, cap, rfl, ho, hb⟩

set_option maxHeartbeats 400000 in
theorem toIntSS_any (v : Value) (g : List (List Int)) (w : World) (hr : MRow w v g) (hn : g.length ≤ 1048576) (hm : tot g ≤ 1048576) :
    Calls Try.prog 20 #[v] w (GivesM g w) := by
  obtain ⟨a, cap, rfl⟩ := hr.shape
  obtain ⟨-, hc⟩ := hr.cells
  obtain ⟨i0, hi, hz0, hz1, hz2⟩ := info_parts Try.infoIntS
  obtain ⟨n, hN⟩ : ∃ n, n = g.length := ⟨_, rfl⟩
  rw [← hN] at hc hn ⊢
  have HN := Lib.hid hN; clear hN
  have HC := Lib.hid hc; clear hc
  have HM := Lib.hid hm; clear hm
  clear hr
  have hm : n ≤ maxLen := by unfold maxLen; omega
  go_enter Try.func20, Try.ntmps20
  go_wp2_with (at_make; refine wpList_make_full _ rfl _ _ 23 rfl w.heap.size 28 i0 (.slice none 0 0) 1 Try.underlying23 hi hz0 hz1 .i64 .i64 _ _ n rfl rfl rfl rfl (by rw [hz2]; omega) hm (Nat.le_refl _) ?_; intro w1 hown hgrow)
  have hlt1 : w.heap.size < w1.heap.size := (hown.lt w.heap.size rfl).2
  go_loopw [4] (fun i wr => ∃ k : Nat, k ≤ n ∧ i = .int .i64 k ∧ FillM wr w.heap.size (.slice (some ⟨w.heap.size, 0, none⟩) n n) n k g ∧ Below w.heap.size w wr) (fun i _ => n - (intOf i).toNat)
  case atStart => exact ⟨0, Nat.zero_le _, rfl, FillM.start hlt1 hown, below_of_grown hgrow (Nat.le_refl _) (fun k e => by cases e)⟩
  case round =>
    obtain ⟨k, hk, rfl, ho, hb⟩ := hrel
    by_cases hlt : k < n
    · obtain ⟨b, off, u, rfl, hcell, hrow⟩ := HC.out k hlt
      have hcell' := (hb.cell (World.block_lt_of_cell? w _ hcell)).trans hcell
      have hrow' := hrow.below hb
      have hlen : (g.getD k []).length ≤ 1099511627776 := Nat.le_trans (tot_row g k (by have := HN.out; omega)) (by have := HM.out; omega)
      obtain ⟨a', cap', rfl⟩ := hrow.shape
      have HT := Lib.hid (toIntS_any _ _ wr hrow' hlen)
      have HO := Lib.hid ho
      have HB := Lib.hid hb
      clear hb hcell hown hgrow hrow hrow' ho hlen
      go_wp2_with fail
      refine HT.out.mono ?_
      rintro e w2 ⟨a2, c2, rfl, ho2, hb2⟩
      obtain ⟨⟨uo, hold⟩, hfr⟩ := (HO.out.below hb2).cell k hlt
      have HF := Lib.hid (HO.out.step hlt hb2 ho2)
      have HB2 := Lib.hid (HB.out.trans (hb2.mono HB.out.size))
      clear ho2 hb2
      go_wp2
      go_roundw
      case rel => exact ⟨k + 1, by omega, by go_num, HF.out, HB2.out.setCell (Nat.le_refl _) _⟩
      case measure => simp [intOf]; omega
    · have hke : k = n := by omega
      subst hke
      go_wp2
      go_ret
      exact GivesM.mk HN.out ho hb

set_option maxHeartbeats 400000 in
theorem eqIntSS_any (va vb : Value) (g : List (List Int)) (w : World) (ha : MRow w va g) (hb : MRow w vb g) (hn : g.length ≤ 1048576) (hm : tot g ≤ 1048576) :
    Calls Try.prog 22 #[va, vb] w fun e w' => e = .returned (.bool true) ∧ Below w.heap.size w w' := by
  obtain ⟨a, cap, rfl⟩ := ha.shape
  obtain ⟨-, hca⟩ := ha.cells
  obtain ⟨b, cap', rfl⟩ := hb.shape
  obtain ⟨-, hcb⟩ := hb.cells
  obtain ⟨n, hN⟩ : ∃ n, n = g.length := ⟨_, rfl⟩
  rw [← hN] at hca hcb hn ⊢
  have HN := Lib.hid hN; clear hN
  have HA := Lib.hid hca; clear hca
  have HB := Lib.hid hcb; clear hcb
  have HM := Lib.hid hm; clear hm
  clear ha hb
  have hb0 : ((n : Int) != (n : Int)) = false := by simp
  go_enter Try.func22, Try.ntmps22
  go_wp2
  go_loopw [5] (fun i wr => ∃ k : Nat, k ≤ n ∧ i = .int .i64 k ∧ Below w.heap.size w wr) (fun i _ => n - (intOf i).toNat)
  case atStart => exact ⟨0, Nat.zero_le _, rfl, Below.refl _ _⟩
  case round =>
    obtain ⟨k, hk, rfl, hb⟩ := hrel
    by_cases hlt : k < n
    · obtain ⟨ba, oa, ua, rfl, hcella, hrowa⟩ := HA.out k hlt
      obtain ⟨bb, ob, ub, rfl, hcellb, hrowb⟩ := HB.out k hlt
      have k1 : (0 : Int) ≤ (k : Int) := by omega
      have k2 : (k : Int) < (n : Int) := by omega
      have hlen : (g.getD k []).length ≤ 1099511627776 := Nat.le_trans (tot_row g k (by have := HN.out; omega)) (by have := HM.out; omega)
      obtain ⟨z, hz⟩ : ∃ z, z = g.getD k [] := ⟨_, rfl⟩
      rw [← hz] at hrowa hrowb hlen
      have hca := (hb.cell (World.block_lt_of_cell? w _ hcella)).trans hcella
      have hcb := (hb.cell (World.block_lt_of_cell? w _ hcellb)).trans hcellb
      have HE := Lib.hid (show ∀ j, Calls Try.prog 21 #[ua, ub] (wr.drewN j) fun e w' => e = .returned (.bool true) ∧ ∃ n, w' = (wr.drewN j).drewN n from fun j => by
        have := eqIntS_any ua ub _ _ (wr.drewN j) ((hrowa.below hb).drewN j) ((hrowb.below hb).drewN j) hlen hlen
        simpa using this)
      have HBe := Lib.hid hb
      clear hb hcella hcellb
      obtain ⟨a1, c1, rfl⟩ := hrowa.shape
      obtain ⟨a2, c2, rfl⟩ := hrowb.shape
      clear hlen hrowa hrowb hz
      go_wp2
      go_quiet ((go_at_call 21; exact Calls.quiet_of (HE.out _)))
      go_wp2
      go_roundw
      case rel => exact ⟨k + 1, by omega, by go_num, below_drewN HBe.out _⟩
      case measure => simp [intOf]; omega
    · go_wp2
      go_ret
      exact ⟨rfl, hb⟩

/-- The world but for the blocks from B on, ahead of C. -/
def Band (B C : Nat) (w w' : World) : Prop := w'.os = w.os ∧ w'.tape = w.tape ∧ w'.output = w.output ∧ w.heap.size ≤ w'.heap.size ∧ ∀ k, k < w.heap.size → (k < B ∨ C ≤ k) → w'.heap[k]? = w.heap[k]?
theorem Band.refl (B C : Nat) (w : World) : Band B C w w := ⟨rfl, rfl, rfl, Nat.le_refl _, fun _ _ _ => rfl⟩
theorem Band.grown {B C : Nat} {w w1 w2 : World} (h : Band B C w w1) {v : Value} (hg : w1.grownBy w2 v.ownBlock) (hv : ∀ k, v.ownBlock = some k → B ≤ k ∧ k < C) : Band B C w w2 := by
  obtain ⟨h1, h2, h3, h4, h5⟩ := h
  refine ⟨hg.os.trans h1, hg.tape.trans h2, hg.output.trans h3, Nat.le_trans h4 hg.size, fun k hk hb => ?_⟩
  rw [hg.block k (by omega) (fun e => by have := hv k e.symm; omega)]
  exact h5 k hk hb
theorem Band.below {B C : Nat} {w w' : World} (h : Band B C w w') (hB : B ≤ w.heap.size) : Below B w w' := by
  obtain ⟨h1, h2, h3, h4, h5⟩ := h
  exact ⟨h1, h2, h3, h4, fun k hk => h5 k (by omega) (.inl hk)⟩
/-- An own slice outside of the band is kept. -/
theorem Own.band {B C D : Nat} {w w' : World} {v : Value} {zs : List Int} (h : Own w D v zs) (hb : Band B C w w') (hv : ∀ k, v.ownBlock = some k → k < B ∨ C ≤ k) : Own w' D v zs := by
  refine ⟨h.1, ?_⟩
  rcases h.2 with hn | ⟨g, cap, cur, hv', h1, h2, r⟩
  · exact .inl hn
  · refine .inr ⟨g, cap, cur, hv', h1, ?_, r⟩
    rw [hb.2.2.2.2 g (Array.getElem?_eq_some_iff.1 h2).1 (hv g (by rw [hv']; rfl))]
    exact h2
/-- The matrix is the call's own, in blocks from B on, ahead of C. -/
def OwnC (w : World) (B C : Nat) (v : Value) (g : List (List Int)) : Prop :=
  ∃ (us : List Value) (L : Nat → Nat), us.length = g.length ∧ w.ownsRow B 28 1 v g.length us ∧ (∀ j, v.ownBlock = some j → j < L 0) ∧ (∀ i, L i ≤ L (i + 1)) ∧ L g.length ≤ C ∧ C ≤ w.heap.size ∧ B ≤ L 0 ∧
    ∀ i, i < g.length → Own w (L i) (us.getD i undef) (g.getD i []) ∧ ∀ j, (us.getD i undef).ownBlock = some j → j < L (i + 1)
theorem OwnM.c {w : World} {B : Nat} {v : Value} {g : List (List Int)} (h : OwnM w B v g) : OwnC w B w.heap.size v g := by
  obtain ⟨us, L, h1, h2, h3, h4, h5, h6, h7⟩ := h
  rw [Nat.sub_self, List.replicate_zero, List.append_nil] at h2
  exact ⟨us, L, h1, h2, h3, h4, h5, Nat.le_refl _, h6, h7⟩
theorem OwnC.m {w : World} {B C : Nat} {v : Value} {g : List (List Int)} (h : OwnC w B C v g) : OwnM w B v g := by
  obtain ⟨us, L, h1, h2, h3, h4, h5, h5', h6, h7⟩ := h
  refine ⟨us, L, h1, ?_, h3, h4, Nat.le_trans h5 h5', h6, h7⟩
  rw [Nat.sub_self, List.replicate_zero, List.append_nil]
  exact h2
theorem OwnC.below {w w' : World} {B C : Nat} {v : Value} {g : List (List Int)} (h : OwnC w B C v g) (hb : Below w.heap.size w w') : OwnC w' B C v g := by
  obtain ⟨us, L, h1, h2, h3, h4, h5, h5', h6, h7⟩ := h
  exact ⟨us, L, h1, h2.kept (grownBy_of_below hb none) (by cases v.ownBlock <;> simp), h3, h4, h5, Nat.le_trans h5' hb.size, h6, fun i hi => ⟨(h7 i hi).1.below hb, (h7 i hi).2⟩⟩
theorem OwnC.base {w : World} {B C : Nat} {v : Value} {g : List (List Int)} (h : OwnC w B C v g) : B ≤ w.heap.size := by
  obtain ⟨us, L, h1, h2, h3, h4, h5, h5', h6, h7⟩ := h
  exact Nat.le_trans h6 (Nat.le_trans (mono_le h4 (Nat.zero_le _)) (Nat.le_trans h5 h5'))
set_option maxHeartbeats 400000 in
theorem markIntSS_any (v : Value) (g : List (List Int)) (B C : Nat) (w : World) (hr : OwnC w B C v g) (hn : g.length ≤ 1048576) (hm : tot g ≤ 1048576) :
    Calls Try.prog 23 #[v, .int .i64 1] w fun e w' => e = .returned (.int .i64 (1 + (tot g : Nat))) ∧ Band B C w w' := by
  obtain ⟨a, cap, rfl⟩ := hr.m.shape
  obtain ⟨us, L, h1, h2, h3, h4, h5, h5', h6, h7⟩ := hr
  obtain ⟨n, hN⟩ : ∃ n, n = g.length := ⟨_, rfl⟩
  rw [← hN] at hn h1 h2 h3 h5 h7 ⊢
  have HN := Lib.hid hN; clear hN
  have HM := Lib.hid hm; clear hm
  have H1 := Lib.hid h1; clear h1
  have H3 := Lib.hid h3; clear h3
  have H4 := Lib.hid h4; clear h4
  have H5 := Lib.hid h5; clear h5
  have H6 := Lib.hid h6; clear h6
  have H7 := Lib.hid (fun i hi => (h7 i hi).2)
  have H7' := Lib.hid (fun j (_ : 0 ≤ j) hj => (h7 j hj).1)
  have H2 := Lib.hid h2
  clear h7 h2 h5'
  go_enter Try.func23, Try.ntmps23
  go_wp2
  go_loopw [1, 5] (fun q i wr => ∃ k x : Nat, k ≤ n ∧ i = .int .i64 k ∧ q = .int .i64 (1 + (x : Int)) ∧ x = tot (g.take k) ∧ wr.ownsRow B 28 1 (.slice a n cap) n us ∧ (∀ j, k ≤ j → j < n → Own wr (L j) (us.getD j undef) (g.getD j [])) ∧ Band B C w wr) (fun _ i _ => n - (intOf i).toNat)
  case atStart => exact ⟨0, 0, Nat.zero_le _, rfl, rfl, by simp [tot], H2.out, H7'.out, Band.refl _ _ _⟩
  case round =>
    obtain ⟨k, x, hk, rfl, rfl, hx, ho, hrows, hband⟩ := hrel
    clear H2 H7'
    by_cases hlt : k < n
    · have hrk := hrows k (Nat.le_refl _) hlt
      have hlen : (g.getD k []).length ≤ 1048576 := Nat.le_trans (tot_row g k (by have := HN.out; omega)) HM.out
      have hx1 : x ≤ 1048576 := by
        have h1 := tot_step g
        have h2 : ∀ j, j ≤ g.length → tot (g.take j) ≤ tot g := fun j hj => by
          unfold tot
          have e : (g.map List.length).sum = ((g.take j).map List.length).sum + ((g.drop j).map List.length).sum := by
            rw [← List.sum_append, ← List.map_append, List.take_append_drop]
          omega
        have h3 := h2 k (by have := HN.out; omega)
        have h4 := HM.out
        omega
      obtain ⟨u, hu⟩ : ∃ u, u = us.getD k undef := ⟨_, rfl⟩
      rw [← hu] at hrk
      have hcell : wr.cell? ⟨0, 0, none⟩ = wr.cell? ⟨0, 0, none⟩ := rfl
      clear hcell
      obtain ⟨b, rfl⟩ : ∃ b, a = some ⟨b, 0, none⟩ := by
        rcases ho.2 with ⟨hv, h0⟩ | ⟨b, c', cur, hv, -⟩
        · omega
        · simp only [Value.slice.injEq] at hv
          exact ⟨b, hv.1⟩
      have hcell : wr.cell? ⟨b, k, none⟩ = some u := by
        rw [World.ownsRow.cellAt ho k (by omega), hu]
        simp [H1.out, hlt]
      have HMk := Lib.hid (markIntS_any u (g.getD k []) (1 + (x : Int)) (L k) wr hrk (by omega) (by omega) (by omega))
      obtain ⟨a', c', rfl⟩ := hrk.shape
      obtain ⟨m, hm⟩ : ∃ m, m = (g.getD k []).length := ⟨_, rfl⟩
      rw [← hm] at hcell HMk
      have HU := Lib.hid hu; clear hu
      have HX := Lib.hid hx; clear hx
      have HO := Lib.hid ho; clear ho
      have HR := Lib.hid hrows; clear hrows
      have HBa := Lib.hid hband; clear hband
      have HMm := Lib.hid hm; clear hm
      have HLK := Lib.hid (show ∀ j, (Value.slice a' m c').ownBlock = some j → L k ≤ j ∧ j < L (k + 1) from fun j hj => by
        rw [HMm.out] at hj
        exact ⟨(hrk.lt j hj).1, H7.out k hlt j (by rw [← HU.out]; exact hj)⟩)
      clear hrk hlen
      go_wp2_with fail
      refine HMk.out.mono ?_
      rintro e w2 ⟨rfl, -, hg⟩
      have HG := Lib.hid hg; clear hg
      go_wp2
      go_roundw
      case rel =>
        have hbL := H3.out b rfl
        refine ⟨k + 1, x + m, by omega, by go_num, by go_num, ?_, ?_, fun j h1 h2 => ?_, ?_⟩
        · rw [tot_step g k (by have := HN.out; omega), HX.out, HMm.out]
        · refine HO.out.kept HG.out (.inr fun e => ?_)
          have := HLK.out b e.symm
          have := mono_le H4.out (Nat.zero_le k)
          omega
        · refine (HR.out j (by omega) h2).kept HG.out fun kk hk e => ?_
          have q1 := HLK.out kk e
          have q2 := ((HR.out j (by omega) h2).lt kk hk).1
          have q3 := mono_le H4.out h1
          omega
        · refine HBa.out.grown HG.out fun kk hk => ?_
          have q1 := HLK.out kk hk
          have q2 := mono_le H4.out (show k + 1 ≤ n by omega)
          have q3 := H5.out
          have q4 := mono_le H4.out (Nat.zero_le k)
          have q5 := H6.out
          omega
      case measure => simp [intOf]; omega
    · have hke : k = n := by omega
      subst hke
      have HX := Lib.hid hx; clear hx
      go_wp2
      go_ret
      exact ⟨ret_int (by rw [HX.out, HN.out, tot_all]), hband⟩

end Go.Proofs.Ytkhhloeemecokaa
