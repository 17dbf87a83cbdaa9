/- Contract: fewest of the program. -/
import Derived.Test.YtonehpndbbojpaaCosts
import Derived.Test.YtonehpndbbojpaaKnot
import Derived.BigRegion
namespace Go.Proofs.Ytonehpndbbojpaa
open Go.RowKit

theorem Try.infoKnot : (Try.prog.info? 52).map (fun i => (i.zero, i.size, i.bytes)) = some (some (.pointer none), 1, 8) := by kernel_rfl

/-- A slice of pointers of the call's own. -/
def OwnP (w : World) (B : Nat) (v : Value) (us : List (Option Addr)) : Prop :=
  w.ownsRow B 52 1 v us.length (us.map Value.pointer)

theorem OwnP.made {w : World} {B g n : Nat} (h : w.ownsRow B 52 1 (.slice (some ⟨g, 0, none⟩) n n) n (madeCells (Value.pointer none).cells (n * 1)).toList) : OwnP w B (.slice (some ⟨g, 0, none⟩) n n) (List.replicate n none) := by
  unfold OwnP
  have e : (madeCells (Value.pointer none).cells (n * 1)).toList = (List.replicate n (none : Option Addr)).map Value.pointer := by
    rw [Nat.mul_one]
    show (madeCells #[Value.pointer none] n).toList = _
    rw [toList_madeCells_one]
    simp
  rw [e] at h
  simpa using h
theorem OwnP.len {w : World} {B n cap : Nat} {a : Option Addr} {us : List (Option Addr)} (h : OwnP w B (.slice a n cap) us) : n = us.length := by
  rcases h.2 with ⟨hv, hn⟩ | ⟨g, cap, cur, hv, _⟩
  · simp only [Value.slice.injEq] at hv; omega
  · simp only [Value.slice.injEq] at hv; exact hv.2.1
theorem OwnP.cellAt {w : World} {B g n cap : Nat} {us : List (Option Addr)} (h : OwnP w B (.slice (some ⟨g, 0, none⟩) n cap) us) (i : Nat) (hi : i < n) : w.cell? ⟨g, i, none⟩ = some (.pointer (us.getD i none)) := by
  obtain rfl := h.len
  rw [World.ownsRow.cellAt h i (by omega)]
  simp [hi]
theorem OwnP.frozenAt {w : World} {B g n cap : Nat} {us : List (Option Addr)} (h : OwnP w B (.slice (some ⟨g, 0, none⟩) n cap) us) (i : Nat) : w.frozen? ⟨g, i, none⟩ = false := by
  obtain rfl := h.len
  exact World.ownsRow.frozenAt h i
theorem OwnP.store {w : World} {B g n cap : Nat} {us : List (Option Addr)} (h : OwnP w B (.slice (some ⟨g, 0, none⟩) n cap) us) (i : Nat) (u : Option Addr) :
    OwnP (w.setCell ⟨g, i, none⟩ (.pointer u)) B (.slice (some ⟨g, 0, none⟩) n cap) (us.set i u) ∧ w.grownBy (w.setCell ⟨g, i, none⟩ (.pointer u)) (some g) := by
  obtain rfl := h.len
  have := World.ownsRow.stored h i (.pointer u)
  refine ⟨?_, this.2⟩
  unfold OwnP
  rw [List.length_set, List.map_set]
  exact this.1
theorem OwnP.kept {w w' : World} {B : Nat} {v : Value} {us : List (Option Addr)} {r : Option Nat} (h : OwnP w B v us) (hg : w.grownBy w' r) (hne : ∀ k, v.ownBlock = some k → r ≠ some k) : OwnP w' B v us := by
  refine World.ownsRow.kept h hg ?_
  cases hv : v.ownBlock with
  | none => exact .inl rfl
  | some k => exact .inr fun e => hne k hv e.symm
theorem OwnP.below {w w' : World} {B : Nat} {v : Value} {us : List (Option Addr)} (h : OwnP w B v us) (hb : Below w.heap.size w w') : OwnP w' B v us :=
  h.kept (grownBy_of_below hb none) (fun _ _ e => by cases e)
theorem OwnP.lt {w : World} {B : Nat} {v : Value} {us : List (Option Addr)} (h : OwnP w B v us) : ∀ k, v.ownBlock = some k → B ≤ k ∧ k < w.heap.size := World.ownsRow.lt h
theorem OwnP.alloc {w : World} {B : Nat} {v : Value} {us : List (Option Addr)} (h : OwnP w B v us) (o : Obj) : OwnP (w.alloc o) B v us := World.ownsRow.alloc h o
/-- A slice of pointers is no knot. -/
theorem KnotAt.not_ownP {w : World} {g B : Nat} {x : Int} {u : Option Addr} {v : Value} {us : List (Option Addr)} (h : KnotAt w g x u) (ho : OwnP w B v us) : v.ownBlock ≠ some g := by
  rcases ho.2 with ⟨hv, _⟩ | ⟨g', cap, cur, hv, _, hh, _⟩
  · rw [hv]; simp [Value.ownBlock]
  · rw [hv]
    simp only [Value.ownBlock, ne_eq, Option.some.injEq]
    intro e
    subst e
    unfold KnotAt at h
    rw [hh] at h
    simp at h
theorem Chain.ownP {w w' : World} {B B' : Nat} {s : Value} {us : List (Option Addr)} (ho : OwnP w B' s us) (hg : w.grownBy w' s.ownBlock) : ∀ {ks : List (Nat × Int)} {v : Value}, Chain w B ks v → Chain w' B ks v
  | [], _, h => h
  | (_, _) :: _, _, ⟨h1, h2, u, h3, h4⟩ => ⟨h1, h2, u, h3.kept hg (h3.not_ownP ho), Chain.ownP ho hg h4⟩
theorem getDo_set_eq (us : List (Option Addr)) (i : Nat) (u : Option Addr) (h : i < us.length) : (us.set i u).getD i none = u := by simp [h]
theorem getDo_set_ne (us : List (Option Addr)) (i j : Nat) (u : Option Addr) (h : i ≠ j) : (us.set i u).getD j none = us.getD j none := by
  simp [List.getD_eq_getElem?_getD, h]

/-- A best line hangs at u. -/
def Hangs (w : World) (B : Nat) (u : Option Addr) (l : List Int) : Prop := ∃ ks, ks.map Prod.snd = l ∧ Chain w B ks (.pointer u)
theorem Hangs.below {w w' : World} {B : Nat} {u : Option Addr} {l : List Int} (h : Hangs w B u l) (hb : Below w.heap.size w w') : Hangs w' B u l := by
  obtain ⟨ks, h1, h2⟩ := h; exact ⟨ks, h1, h2.below hb⟩
theorem Hangs.own {w w' : World} {B B' : Nat} {s : Value} {zs : List Int} {u : Option Addr} {l : List Int} (h : Hangs w B u l) (ho : Own w B' s zs) (hg : w.grownBy w' s.ownBlock) : Hangs w' B u l := by
  obtain ⟨ks, h1, h2⟩ := h; exact ⟨ks, h1, Chain.own ho hg h2⟩
theorem Hangs.ownP {w w' : World} {B B' : Nat} {s : Value} {us : List (Option Addr)} {u : Option Addr} {l : List Int} (h : Hangs w B u l) (ho : OwnP w B' s us) (hg : w.grownBy w' s.ownBlock) : Hangs w' B u l := by
  obtain ⟨ks, h1, h2⟩ := h; exact ⟨ks, h1, Chain.ownP ho hg h2⟩
theorem Hangs.cons {w : World} {B : Nat} {u : Option Addr} {l : List Int} (h : Hangs w B u l) (hB : B ≤ w.heap.size) (x : Int) :
    Hangs (w.alloc (.cells #[.int .i64 x, .pointer u] 55)) B (some ⟨w.heap.size, 0, none⟩) (x :: l) := by
  obtain ⟨ks, h1, h2⟩ := h
  exact ⟨_ :: ks, by rw [List.map_cons, h1], h2.cons hB x⟩
theorem Hangs.some_of {w : World} {B : Nat} {u : Option Addr} {l : List Int} (h : Hangs w B u l) (hl : 0 < l.length) : ∃ g, u = some ⟨g, 0, none⟩ := by
  obtain ⟨ks, h1, h2⟩ := h
  cases ks with
  | nil => rw [← h1] at hl; simp at hl
  | cons k r =>
    have := h2.1
    simp only [Value.pointer.injEq] at this
    exact ⟨_, this⟩

/-- What stands in the two slices: the points behind i are done, at i the last m points have been tried. -/
structure Table (p : List Int) (e : Int) (n i m : Nat) (B b1 b2 : Nat) (w : World) (us : List (Option Addr)) (cs : List Int) : Prop where
  ul : us.length = n
  cl : cs.length = n
  ou : OwnP w B (.slice (some ⟨b1, 0, none⟩) n n) us
  oc : Own w B (.slice (some ⟨b2, 0, none⟩) n n) cs
  ne : b1 ≠ b2
  done : ∀ k, i < k → k < n → Hangs w B (us.getD k none) (lineL (okB p e) n k) ∧ cs.getD k 0 = costN p e k
  todo : ∀ k, k < i → us.getD k none = none
  now : match pickK (okB p e i) (costN p e) n m with
    | none => us.getD i none = none
    | some k => Hangs w B (us.getD i none) ((i : Int) :: lineL (okB p e) n k) ∧ cs.getD i 0 = 1 + (costN p e k : Int)

theorem Table.below {p : List Int} {e : Int} {n i m B b1 b2 : Nat} {w w' : World} {us : List (Option Addr)} {cs : List Int} (h : Table p e n i m B b1 b2 w us cs) (hb : Below w.heap.size w w') : Table p e n i m B b1 b2 w' us cs := by
  refine ⟨h.ul, h.cl, h.ou.below hb, h.oc.below hb, h.ne, fun k k1 k2 => ⟨(h.done k k1 k2).1.below hb, (h.done k k1 k2).2⟩, h.todo, ?_⟩
  have hn := h.now
  cases ep : pickK (okB p e i) (costN p e) n m with
  | none => rw [ep] at hn; exact hn
  | some k => rw [ep] at hn; exact ⟨hn.1.below hb, hn.2⟩

theorem Table.skip {p : List Int} {e : Int} {n i m B b1 b2 : Nat} {w : World} {us : List (Option Addr)} {cs : List Int} (h : Table p e n i m B b1 b2 w us cs) (hk : okB p e i (n - 1 - m) = false) : Table p e n i (m + 1) B b1 b2 w us cs := by
  refine ⟨h.ul, h.cl, h.ou, h.oc, h.ne, h.done, h.todo, ?_⟩
  have hn := h.now
  simp only [pickK]
  rw [hk]
  simpa using hn

/-- The new line is better: the two stores. -/
theorem Table.take {p : List Int} {e : Int} {n i m B b1 b2 : Nat} {w : World} {us : List (Option Addr)} {cs : List Int} (h : Table p e n i m B b1 b2 w us cs) (hB : B ≤ w.heap.size) (hm : i + m + 1 < n) (hk : okB p e i (n - 1 - m) = true)
    (hnew : match pickK (okB p e i) (costN p e) n m with | none => True | some k => costN p e (n - 1 - m) < costN p e k) (u : Option Addr) (hu : us.getD (n - 1 - m) none = u) :
    Table p e n i (m + 1) B b1 b2 (((w.alloc (.cells #[.int .i64 (i : Int), .pointer u] 55)).setCell ⟨b1, i, none⟩ (.pointer (some ⟨w.heap.size, 0, none⟩))).setCell ⟨b2, i, none⟩ (.int .i64 ((costN p e (n - 1 - m) : Int) + 1)))
      (us.set i (some ⟨w.heap.size, 0, none⟩)) (cs.set i ((costN p e (n - 1 - m) : Int) + 1)) := by
  have hba := Below.alloc (Below.refl w.heap.size w) (Nat.le_refl _) (.cells #[.int .i64 (i : Int), .pointer u] 55)
  have hd := h.done (n - 1 - m) (by omega) (by omega)
  rw [hu] at hd
  have hl := hd.1.cons hB (i : Int)
  have ou1 := h.ou.below hba
  have oc1 := h.oc.below hba
  have s1 := ou1.store i (some ⟨w.heap.size, 0, none⟩)
  have oc2 := oc1.kept s1.2 (fun k hk e => by simp [Value.ownBlock] at hk e; exact h.ne (by omega))
  have s2 := oc2.store i ((costN p e (n - 1 - m) : Int) + 1)
  have ou2 := s1.1.kept s2.2 (fun k hk e => by simp [Value.ownBlock] at hk e; exact h.ne (by omega))
  have hg1 : (w.alloc (.cells #[.int .i64 (i : Int), .pointer u] 55)).grownBy _ (Value.slice (some ⟨b1, 0, none⟩) n n).ownBlock := s1.2
  have hg2 : ((w.alloc (.cells #[.int .i64 (i : Int), .pointer u] 55)).setCell ⟨b1, i, none⟩ (.pointer (some ⟨w.heap.size, 0, none⟩))).grownBy _ (Value.slice (some ⟨b2, 0, none⟩) n n).ownBlock := s2.2
  refine ⟨by simp [h.ul], by simp [h.cl], ou2, s2.1, h.ne, ?_, ?_, ?_⟩
  · intro k k1 k2
    rw [getDo_set_ne _ _ _ _ (by omega), getD_set_ne _ _ _ _ (by omega)]
    exact ⟨(((h.done k k1 k2).1.below hba).ownP ou1 hg1).own oc2 hg2, (h.done k k1 k2).2⟩
  · intro k k1
    rw [getDo_set_ne _ _ _ _ (by omega)]
    exact h.todo k k1
  · have hp : pickK (okB p e i) (costN p e) n (m + 1) = some (n - 1 - m) := by
      simp only [pickK]
      rw [hk]
      simp only [if_true]
      cases ep : pickK (okB p e i) (costN p e) n m with
      | none => rfl
      | some k => rw [ep] at hnew; simp only; rw [if_pos hnew]
    rw [hp]
    simp only
    rw [getDo_set_eq _ _ _ (by rw [h.ul]; omega), getD_set_eq _ _ _ (by rw [h.cl]; omega)]
    exact ⟨(hl.ownP ou1 hg1).own oc2 hg2, by omega⟩

theorem Table.leave {p : List Int} {e : Int} {n i m B b1 b2 : Nat} {w : World} {us : List (Option Addr)} {cs : List Int} (h : Table p e n i m B b1 b2 w us cs) (k : Nat) (hk : pickK (okB p e i) (costN p e) n m = some k) (hle : ¬ costN p e (n - 1 - m) < costN p e k) :
    Table p e n i (m + 1) B b1 b2 w us cs := by
  refine ⟨h.ul, h.cl, h.ou, h.oc, h.ne, h.done, h.todo, ?_⟩
  have hn := h.now
  simp only [pickK]
  rw [hk] at hn ⊢
  cases ek : okB p e i (n - 1 - m)
  · simpa using hn
  · simp only [if_true, if_neg hle]
    exact hn

/-- The points from j on are done. -/
structure Done (p : List Int) (e : Int) (n j : Nat) (B b1 b2 : Nat) (w : World) (us : List (Option Addr)) (cs : List Int) : Prop where
  ul : us.length = n
  cl : cs.length = n
  ou : OwnP w B (.slice (some ⟨b1, 0, none⟩) n n) us
  oc : Own w B (.slice (some ⟨b2, 0, none⟩) n n) cs
  ne : b1 ≠ b2
  done : ∀ k, j ≤ k → k < n → Hangs w B (us.getD k none) (lineL (okB p e) n k) ∧ cs.getD k 0 = costN p e k
  todo : ∀ k, k < j → us.getD k none = none

theorem Done.start {p : List Int} {e : Int} {n i B b1 b2 : Nat} {w : World} {us : List (Option Addr)} {cs : List Int} (h : Done p e n (i + 1) B b1 b2 w us cs) : Table p e n i 0 B b1 b2 w us cs :=
  ⟨h.ul, h.cl, h.ou, h.oc, h.ne, fun k k1 k2 => h.done k (by omega) k2, fun k k1 => h.todo k (by omega), h.todo i (by omega)⟩

theorem Table.finish {p : List Int} {e : Int} (he : 0 ≤ e) {n i B b1 b2 : Nat} {w : World} {us : List (Option Addr)} {cs : List Int} (hn : n = p.length) (hi : i + 1 < n) (h : Table p e n i (n - 1 - i) B b1 b2 w us cs) : Done p e n i B b1 b2 w us cs := by
  refine ⟨h.ul, h.cl, h.ou, h.oc, h.ne, ?_, h.todo⟩
  intro k k1 k2
  by_cases ek : k = i
  · subst ek
    subst hn
    obtain ⟨k', e1, -, -, -, e2, -⟩ := line_pick (few_ok (p := p) he) hi
    have hnow := h.now
    have e1' : pickK (okB p e k) (costN p e) p.length (p.length - 1 - k) = some k' := e1
    rw [e1'] at hnow
    rw [e2]
    refine ⟨hnow.1, ?_⟩
    rw [hnow.2]
    have : costN p e k = 1 + costN p e k' := by
      unfold costN
      rw [e2]; simp; omega
    omega
  · exact h.done k (by omega) k2

theorem rep_none (n i : Nat) : (List.replicate n (none : Option Addr)).getD i none = none := by
  rw [List.getD_eq_getElem?_getD, List.getElem?_replicate]; split <;> rfl
theorem rep_zero (n i : Nat) : (List.replicate n (0 : Int)).getD i 0 = 0 := by
  rw [List.getD_eq_getElem?_getD, List.getElem?_replicate]; split <;> rfl
theorem Hangs.nil (w : World) (B : Nat) : Hangs w B none [] := ⟨[], rfl, rfl⟩

/-- The first stores: the last point. -/
theorem few_init {p : List Int} {e : Int} {n B b1 b2 : Nat} {w : World} {x : Int} (hn : n = p.length) (l1 : 1 ≤ n) (hx : x = (n : Int) - 1) (hl : lineL (okB p e) n (n - 1) = [((n - 1 : Nat) : Int)]) (hc : costN p e (n - 1) = 1)
    (oP : OwnP w B (.slice (some ⟨b1, 0, none⟩) n n) (List.replicate n none)) (oC : Own w B (.slice (some ⟨b2, 0, none⟩) n n) (List.replicate n 0)) (ne : b1 ≠ b2) (hB : B ≤ w.heap.size) :
    (w.alloc (.cells #[.int .i64 x, .pointer none] 55)).cell? ⟨b1, n - 1, none⟩ = some (.pointer none) ∧
    (w.alloc (.cells #[.int .i64 x, .pointer none] 55)).frozen? ⟨b1, n - 1, none⟩ = false ∧
    ((w.alloc (.cells #[.int .i64 x, .pointer none] 55)).setCell ⟨b1, n - 1, none⟩ (.pointer (some ⟨w.heap.size, 0, none⟩))).cell? ⟨b2, n - 1, none⟩ = some (.int .i64 0) ∧
    ((w.alloc (.cells #[.int .i64 x, .pointer none] 55)).setCell ⟨b1, n - 1, none⟩ (.pointer (some ⟨w.heap.size, 0, none⟩))).frozen? ⟨b2, n - 1, none⟩ = false ∧
    Done p e n (n - 1) B b1 b2 (((w.alloc (.cells #[.int .i64 x, .pointer none] 55)).setCell ⟨b1, n - 1, none⟩ (.pointer (some ⟨w.heap.size, 0, none⟩))).setCell ⟨b2, n - 1, none⟩ (.int .i64 1))
      ((List.replicate n none).set (n - 1) (some ⟨w.heap.size, 0, none⟩)) ((List.replicate n 0).set (n - 1) 1) := by
  have hba := Below.alloc (Below.refl w.heap.size w) (Nat.le_refl _) (.cells #[.int .i64 x, .pointer none] 55)
  have hl1 := (Hangs.nil w B).cons hB x
  have ou1 := oP.below hba
  have oc1 := oC.below hba
  have s1 := ou1.store (n - 1) (some ⟨w.heap.size, 0, none⟩)
  have oc2 := oc1.kept s1.2 (fun k hk e => by simp [Value.ownBlock] at hk e; exact ne (by omega))
  have s2 := oc2.store (n - 1) 1
  have ou2 := s1.1.kept s2.2 (fun k hk e => by simp [Value.ownBlock] at hk e; exact ne (by omega))
  have hg1 : (w.alloc (.cells #[.int .i64 x, .pointer none] 55)).grownBy _ (Value.slice (some ⟨b1, 0, none⟩) n n).ownBlock := s1.2
  have hg2 : ((w.alloc (.cells #[.int .i64 x, .pointer none] 55)).setCell ⟨b1, n - 1, none⟩ (.pointer (some ⟨w.heap.size, 0, none⟩))).grownBy _ (Value.slice (some ⟨b2, 0, none⟩) n n).ownBlock := s2.2
  have c1 := ou1.cellAt (n - 1) (by omega)
  have c2 := oc2.cellAt (n - 1) (by omega)
  refine ⟨by rw [c1, rep_none], ou1.frozenAt _, by rw [c2, rep_zero], oc2.frozenAt _, ?_⟩
  refine ⟨by simp, by simp, ou2, s2.1, ne, ?_, ?_⟩
  · intro k k1 k2
    have hk : k = n - 1 := by omega
    subst hk
    rw [getDo_set_eq _ _ _ (by simp; omega), getD_set_eq _ _ _ (by simp; omega), hl, hc]
    have := (hl1.ownP ou1 hg1).own oc2 hg2
    rw [show x = ((n - 1 : Nat) : Int) by omega] at this ⊢
    exact ⟨this, rfl⟩
  · intro k k1
    rw [getDo_set_ne _ _ _ _ (by omega), rep_none]

/-- What fewest gives. -/
def GivesLine (zs : List Int) (w : World) (e : Ending) (w' : World) : Prop := ∃ ks u, e = .returned (.pointer u) ∧ ks.map Prod.snd = zs ∧ Chain w' w.heap.size ks (.pointer u) ∧ Below w.heap.size w w'

set_option maxHeartbeats 1000000 in
theorem fewest_any (v : Value) (p : List Int) (e : Int) (w : World) (hr : Row w v p) (hv : validB p = true) (he : 0 ≤ e) :
    Calls Try.prog 63 #[v, .int .i64 e] w (GivesLine (fewL p e) w) := by
  have hl := valid_len hv
  have HG := Lib.hid (fun (i k : Nat) (wr : World) (hik : i ≤ k) (hk : k < p.length) (hb : Below w.heap.size w wr) => span_any v p i k wr (hr.below hb) hv hik hk)
  have HE := Lib.hid (fun i k => spanV_bd hv i k)
  have HNb := Lib.hid (fun i hi => @costN_bd p e he i hi)
  have HFin := Lib.hid (fun n i B b1 b2 w us cs => @Table.finish p e he n i B b1 b2 w us cs)
  have HFew := Lib.hid (show fewL p e = lineL (okB p e) p.length 0 from rfl)
  have HLast := Lib.hid (lineL_last (okB p e) p.length)
  have HCl := Lib.hid (show costN p e (p.length - 1) = 1 by unfold costN; rw [lineL_last]; rfl)
  obtain ⟨a, cap, rfl⟩ := hr.shape
  obtain ⟨i0, hi, hz0, hz1, hz2⟩ := info_parts Try.infoInt
  obtain ⟨j0, hj, hy0, hy1, hy2⟩ := info_parts Try.infoKnot
  obtain ⟨n, hN⟩ : ∃ n, n = p.length := ⟨_, rfl⟩
  rw [← hN] at hl HG HNb HFew HLast HCl ⊢
  have HN := Lib.hid hN
  obtain ⟨l1, l2⟩ := hl
  clear hr hv hN
  have hm : n ≤ maxLen := by unfold maxLen; omega
  go_enter Try.func63, Try.ntmps63
  go_wp2_with (first
    | (at_make; refine wpList_make_full _ rfl _ _ 68 rfl w.heap.size 52 j0 (.pointer none) 1 Try.underlying68 hj hy0 hy1 .i64 .i64 _ _ n rfl rfl rfl rfl (by rw [hy2]; omega) hm (Nat.le_refl _) ?_; intro w1 hownP hgrowP; (have HP1 := Lib.hid (OwnP.made hownP)); (have HB1 := Lib.hid (below_of_grown hgrowP (Nat.le_refl _) (fun k e => by cases e) : Below w.heap.size w w1)); clear hownP hgrowP; (have hs1 := HB1.out.size))
    | (at_make; refine wpList_make_full _ rfl _ _ 23 rfl w.heap.size 3 i0 (.int .i64 0) 1 Try.underlying23 hi hz0 hz1 .i64 .i64 _ _ n rfl rfl rfl rfl (by rw [hz2]; omega) hm hs1 ?_; intro w2 hown hgrow; (have HB2 := Lib.hid (HB1.out.trans (below_of_grown hgrow hs1 (fun k e => by cases e)))); (have INI := Lib.hid (few_init (x := (n : Int) - 1) HN.out l1 rfl HLast.out HCl.out (HP1.out.kept hgrow (fun _ _ e => by cases e)) (Own.made hown) (Nat.ne_of_lt (HP1.out.lt w.heap.size rfl).2) HB2.out.size)); clear hown hgrow; obtain ⟨y1, y2, y3, y4, -⟩ := INI.out))
  obtain ⟨-, -, -, -, hD⟩ := INI.out
  have HD := Lib.hid hD
  clear hD INI y1 y2 y3 y4
  have HB4 := Lib.hid (((Below.alloc HB2.out HB2.out.size (.cells #[.int .i64 ((n : Int) - 1), .pointer none] 55)).setCell (p := ⟨w.heap.size, n - 1, none⟩) (Nat.le_refl _) (.pointer (some ⟨w2.heap.size, 0, none⟩))).setCell (p := ⟨w1.heap.size, n - 1, none⟩) hs1 (.int .i64 1))
  clear HP1 HB1 HB2
  go_loopw [8] (fun s wr => ∃ (d : Nat) (us : List (Option Addr)) (cs : List Int), d + 1 ≤ n ∧ s = .int .i64 ((n : Int) - 2 - d) ∧ Done p e n (n - 1 - d) w.heap.size w.heap.size w1.heap.size wr us cs ∧ Below w.heap.size w wr) (fun s _ => (intOf s + 1).toNat)
  case atStart => exact ⟨0, _, _, by omega, by go_num, HD.out, HB4.out⟩
  case round =>
    clear HD HB4
    obtain ⟨d, us, cs, hd, rfl, hD, hb⟩ := hrel
    have HBe := Lib.hid hb; clear hb
    by_cases hlt : d + 1 < n
    · obtain ⟨i, hi⟩ : ∃ i : Nat, i + d + 2 = n := ⟨n - 2 - d, by omega⟩
      have ei : ((n : Int) - 2 - d) = (i : Int) := by omega
      rw [show n - 1 - d = i + 1 by omega] at hD
      rw [ei]
      have HI := Lib.hid hi
      have HT := Lib.hid hD.start
      have hin : i + 1 < n := by omega
      clear ei hi hD
      go_wp2
      obtain ⟨wo, rfl⟩ : ∃ wo : World, wo = wr := ⟨_, rfl⟩
      go_loopw [9] (fun s wr => ∃ (m : Nat) (us : List (Option Addr)) (cs : List Int), i + m + 1 ≤ n ∧ s = .int .i64 ((n : Int) - 1 - m) ∧ Table p e n i m w.heap.size w.heap.size w1.heap.size wr us cs ∧ Below w.heap.size w wr) (fun s _ => ((intOf s) - i).toNat)
      case atStart => exact ⟨0, us, cs, by omega, by go_num, HT.out, HBe.out⟩
      case round =>
        clear HT HBe
        obtain ⟨m, us, cs, hmn, rfl, hT, hb⟩ := hrel
        have HBe := Lib.hid hb; clear hb
        have HT := Lib.hid hT; clear hT
        have hsz := HBe.out.size
        by_cases hlt2 : i + m + 1 < n
        · obtain ⟨k, hk⟩ : ∃ k : Nat, k + m + 1 = n := ⟨n - 1 - m, by omega⟩
          have ek : ((n : Int) - 1 - m) = (k : Int) := by omega
          rw [ek]
          have hik : i < k := by omega
          have hkn : k < n := by omega
          have HK := Lib.hid (show n - 1 - m = k by omega)
          have HK2 := Lib.hid hk
          clear ek hk
          have G := Lib.hid (fun wr' (hb : Below w.heap.size w wr') => HG.out i k wr' (by omega) hkn hb)
          have hNb := HNb.out k hkn
          have hdone := HT.out.done k hik hkn
          have d0 := HT.out.ou.cellAt i (by omega)
          have d1 := HT.out.ou.cellAt k hkn
          have d2 := HT.out.oc.cellAt i (by omega)
          have d3 := HT.out.oc.cellAt k hkn
          have OK := Lib.hid (show okB p e i k = decide (spanV p i k ≤ e) from rfl)
          obtain ⟨E, hE⟩ : ∃ E, E = spanV p i k := ⟨_, rfl⟩
          rw [← hE] at G OK
          rw [hdone.2] at d3
          clear hE hdone
          obtain ⟨C, hC⟩ : ∃ C, C = costN p e k := ⟨_, rfl⟩
          rw [← hC] at hNb d3
          have HC := Lib.hid hC; clear hC
          have q1 : (0 : Int) ≤ (i : Int) := by omega
          have q2 : (i : Int) < (n : Int) := by omega
          have q3 : (0 : Int) ≤ (k : Int) := by omega
          have q4 : (k : Int) < (n : Int) := by omega
          have q5 : IntKind.i64.wrap ((C : Int) + 1) = (C : Int) + 1 := IntWalk.i64_in _ (by omega)
          by_cases hle : E ≤ e
          · have hok : okB p e i k = true := by rw [OK.out]; simpa using hle
            cases ep : pickK (okB p e i) (costN p e) n m with
            | none =>
              have hnow := HT.out.now
              rw [ep] at hnow
              rw [hnow] at d0
              clear hnow
              have hd1 : decide (E ≤ e) = true := by simpa using hle
              clear hmn d2
              go_wp2
              go_quiet ((go_at_call 57; exact Calls.quiet_of (G.out _ (below_drewN HBe.out _))))
              obtain ⟨W, hW⟩ : ∃ W, W = wr.drewN nq := ⟨_, rfl⟩
              have HBW := Lib.hid (show Below w.heap.size w W by rw [hW]; exact below_drewN HBe.out _)
              have HTW := Lib.hid (show Table p e n i m w.heap.size w.heap.size w1.heap.size W us cs by rw [hW]; exact HT.out.below (below_drewN (Below.refl _ _) _))
              rw [← hW]
              clear hW d0 d1 d3
              have hb1 := (HTW.out.ou.lt _ rfl).2
              have hb2 := (HTW.out.oc.lt _ rfl).2
              have c1 := HTW.out.ou.cellAt k hkn
              have c3 := HTW.out.oc.cellAt k hkn
              have f0 := HTW.out.ou.frozenAt i
              have c0 := HTW.out.ou.cellAt i (by omega)
              have HS1 := Lib.hid (HTW.out.oc.kept (HTW.out.ou.store i (some ⟨W.heap.size, 0, none⟩)).2 (fun k hk e => by simp [Value.ownBlock] at hk e; have := HTW.out.ne; omega))
              have c2 := HS1.out.cellAt i (by omega)
              have f2 := HS1.out.frozenAt i
              rw [(HTW.out.done k hik hkn).2, ← HC.out] at c3
              obtain ⟨uk, huk⟩ : ∃ u, u = us.getD k none := ⟨_, rfl⟩
              obtain ⟨ui, hui⟩ : ∃ u, u = us.getD i none := ⟨_, rfl⟩
              obtain ⟨ci, hci⟩ : ∃ u, u = cs.getD i 0 := ⟨_, rfl⟩
              rw [← huk] at c1
              rw [← hui] at c0
              rw [← hci] at c2
              have HTk := Lib.hid (HTW.out.take HBW.out.size hlt2 (by rw [HK.out]; exact hok) (by rw [ep]; trivial) uk (by rw [HK.out, huk]))
              rw [HK.out, ← HC.out, World.setCell_alloc_past _ _ _ _ hb1, World.setCell_alloc_past _ _ _ _ (by simpa using hb2)] at HTk
              have HBk := Lib.hid (Below.alloc ((HBW.out.setCell (p := ⟨w.heap.size, i, none⟩) (Nat.le_refl _) (.pointer (some ⟨W.heap.size, 0, none⟩))).setCell (p := ⟨w1.heap.size, i, none⟩) hs1 (.int .i64 ((C : Int) + 1))) (by have := HBW.out.size; simpa using this) (.cells #[.int .i64 (i : Int), .pointer uk] 55))
              have BD := Lib.hid (show ∀ W, Below w.heap.size w W → Below w.heap.size w W.drew from fun W h => ⟨h.os, h.tape, h.output, h.size, h.block⟩)
              clear huk hui hci ep HTW HBW HS1
              go_wp2
              go_region
              clear q5
              go_wp2
              go_roundw
              case rel => exact ⟨m + 1, _, _, by omega, val_int (by have := HK2.out; omega), HTk.out.below ⟨rfl, rfl, rfl, Nat.le_refl _, fun _ _ => rfl⟩, BD.out _ HBk.out⟩
              case measure => simp [intOf]; omega
            | some k' =>
              have hnow := HT.out.now
              rw [ep] at hnow
              obtain ⟨hng, hnc⟩ := hnow
              obtain ⟨gi, hgi⟩ := hng.some_of (by simp)
              rw [hgi] at d0
              rw [hnc] at d2
              have hNb' := HNb.out k' (pickK_some (by omega) ep).2.1
              obtain ⟨C', hC'⟩ : ∃ C, C = costN p e k' := ⟨_, rfl⟩
              rw [← hC'] at d2 hNb'
              have HC' := Lib.hid hC'
              have hd1 : decide (E ≤ e) = true := by simpa using hle
              clear hng hnc hgi hC' hmn
              by_cases hcc : C < C'
              · have hc2 : (C : Int) + 1 < 1 + (C' : Int) := by omega
                go_wp2
                go_quiet ((go_at_call 57; exact Calls.quiet_of (G.out _ (below_drewN HBe.out _))))
                obtain ⟨W, hW⟩ : ∃ W, W = wr.drewN nq := ⟨_, rfl⟩
                have HBW := Lib.hid (show Below w.heap.size w W by rw [hW]; exact below_drewN HBe.out _)
                have HTW := Lib.hid (show Table p e n i m w.heap.size w.heap.size w1.heap.size W us cs by rw [hW]; exact HT.out.below (below_drewN (Below.refl _ _) _))
                rw [← hW]
                clear hW d0 d1 d2 d3
                have hb1 := (HTW.out.ou.lt _ rfl).2
                have hb2 := (HTW.out.oc.lt _ rfl).2
                have c1 := HTW.out.ou.cellAt k hkn
                have c3 := HTW.out.oc.cellAt k hkn
                have f0 := HTW.out.ou.frozenAt i
                have c0 := HTW.out.ou.cellAt i (by omega)
                have HS1 := Lib.hid (HTW.out.oc.kept (HTW.out.ou.store i (some ⟨W.heap.size, 0, none⟩)).2 (fun k hk e => by simp [Value.ownBlock] at hk e; have := HTW.out.ne; omega))
                have c2 := HS1.out.cellAt i (by omega)
                have f2 := HS1.out.frozenAt i
                rw [(HTW.out.done k hik hkn).2, ← HC.out] at c3
                obtain ⟨uk, huk⟩ : ∃ u, u = us.getD k none := ⟨_, rfl⟩
                obtain ⟨ui, hui⟩ : ∃ u, u = us.getD i none := ⟨_, rfl⟩
                obtain ⟨ci, hci⟩ : ∃ u, u = cs.getD i 0 := ⟨_, rfl⟩
                rw [← huk] at c1
                rw [← hui] at c0
                rw [← hci] at c2
                have HTk := Lib.hid (HTW.out.take HBW.out.size hlt2 (by rw [HK.out]; exact hok) (by rw [ep]; show costN p e (n - 1 - m) < costN p e k'; rw [HK.out, ← HC.out, ← HC'.out]; exact hcc) uk (by rw [HK.out, huk]))
                rw [HK.out, ← HC.out, World.setCell_alloc_past _ _ _ _ hb1, World.setCell_alloc_past _ _ _ _ (by simpa using hb2)] at HTk
                have HBk := Lib.hid (Below.alloc ((HBW.out.setCell (p := ⟨w.heap.size, i, none⟩) (Nat.le_refl _) (.pointer (some ⟨W.heap.size, 0, none⟩))).setCell (p := ⟨w1.heap.size, i, none⟩) hs1 (.int .i64 ((C : Int) + 1))) (by have := HBW.out.size; simpa using this) (.cells #[.int .i64 (i : Int), .pointer uk] 55))
                have BD := Lib.hid (show ∀ W, Below w.heap.size w W → Below w.heap.size w W.drew from fun W h => ⟨h.os, h.tape, h.output, h.size, h.block⟩)
                clear huk hui hci ep HTW HBW HS1
                go_wp2
                go_region
                clear q5
                go_wp2
                go_roundw
                case rel => exact ⟨m + 1, _, _, by omega, val_int (by have := HK2.out; omega), HTk.out.below ⟨rfl, rfl, rfl, Nat.le_refl _, fun _ _ => rfl⟩, BD.out _ HBk.out⟩
                case measure => simp [intOf]; omega
              · have hc2 : ¬ (C : Int) + 1 < 1 + (C' : Int) := by omega
                have hc3 : decide ((C : Int) + 1 < 1 + (C' : Int)) = false := by simpa using hc2
                have HT2 := Lib.hid (HT.out.leave k' ep (by rw [HK.out, ← HC.out, ← HC'.out]; exact hcc))
                clear ep
                go_wp2
                go_quiet ((go_at_call 57; exact Calls.quiet_of (G.out _ (below_drewN HBe.out _))))
                clear q5 hc3
                go_wp2
                go_roundw
                case rel => exact ⟨m + 1, us, cs, by omega, val_int (by have := HK2.out; omega), HT2.out.below (below_drewN (Below.refl _ _) _), below_drewN HBe.out _⟩
                case measure => simp [intOf]; omega
          · have HT2 := Lib.hid (HT.out.skip (by rw [HK.out, OK.out]; simpa using hle))
            have hd1 : decide (E ≤ e) = false := by simpa using hle
            clear d0 d1 d2 d3 hmn
            go_wp2
            go_quiet ((go_at_call 57; exact Calls.quiet_of (G.out _ (below_drewN HBe.out _))))
            clear q5
            go_wp2
            go_roundw
            case rel => exact ⟨m + 1, us, cs, by omega, val_int (by have := HK2.out; omega), HT2.out.below (below_drewN (Below.refl _ _) _), below_drewN HBe.out _⟩
            case measure => simp [intOf]; omega
        · have hme : m = n - 1 - i := by omega
          have HFi := Lib.hid (HFin.out _ _ _ _ _ _ us cs HN.out hin (by rw [← hme]; exact HT.out))
          have ei : ((n : Int) - 1 - m) = (i : Int) := by omega
          rw [ei]
          clear ei hme hmn hlt2
          go_wp2
          go_roundw
          case rel => exact ⟨d + 1, us, cs, by omega, val_int (by have := HI.out; omega), by rw [show n - 1 - (d + 1) = i by have := HI.out; omega]; exact HFi.out, HBe.out⟩
          case measure => simp [intOf]
    · have hde : n - 1 - d = 0 := by omega
      rw [hde] at hD
      have h0 := hD.done 0 (Nat.le_refl _) (by omega)
      have k0 := hD.ou.cellAt 0 (by omega)
      have HH := Lib.hid h0.1
      have en : ((n : Int) - 2 - d) = -1 := by omega
      rw [en]
      clear hde hD h0 en
      obtain ⟨u, hu⟩ : ∃ u, u = us.getD 0 none := ⟨_, rfl⟩
      rw [← hu] at k0 HH
      clear hu
      go_wp2
      go_ret
      obtain ⟨ks, h1, h2⟩ := HH.out
      exact ⟨ks, u, rfl, by rw [HFew.out]; exact h1, h2, HBe.out⟩

end Go.Proofs.Ytonehpndbbojpaa
