/- Knots: thinned lines in memory; contracts of strung, points, count. -/
import Derived.Test.YtonehpndbbojpaaValid
import Derived.Test.YtonehpndbbojpaaBase
import Derived.Deep.LoopGhost
namespace Go.Proofs.Ytonehpndbbojpaa
open Go.RowKit

/-- The block g is a knot. -/
def KnotAt (w : World) (g : Nat) (x : Int) (u : Option Addr) : Prop := w.heap[g]? = some (.cells #[.int .i64 x, .pointer u] 55 (0, 0))

theorem KnotAt.lt {w : World} {g : Nat} {x : Int} {u : Option Addr} (h : KnotAt w g x u) : g < w.heap.size := (Array.getElem?_eq_some_iff.1 h).1
theorem KnotAt.cell0 {w : World} {g : Nat} {x : Int} {u : Option Addr} (h : KnotAt w g x u) : w.cell? ⟨g, 0, none⟩ = some (.int .i64 x) := by
  rw [cell_of_row w g 0 _ _ (0, 0) h]; rfl
theorem KnotAt.cell1 {w : World} {g : Nat} {x : Int} {u : Option Addr} (h : KnotAt w g x u) : w.cell? ⟨g, 1, none⟩ = some (.pointer u) := by
  rw [cell_of_row w g 1 _ _ (0, 0) h]; rfl
theorem KnotAt.frozen {w : World} {g : Nat} {x : Int} {u : Option Addr} (h : KnotAt w g x u) (j : Nat) : w.frozen? ⟨g, j, none⟩ = false := frozen_of_row w g j _ _ h
theorem KnotAt.below {w w' : World} {g : Nat} {x : Int} {u : Option Addr} (h : KnotAt w g x u) (hb : Below w.heap.size w w') : KnotAt w' g x u := by
  unfold KnotAt; rw [hb.block g h.lt]; exact h
theorem KnotAt.kept {w w' : World} {g : Nat} {x : Int} {u : Option Addr} {r : Option Nat} (h : KnotAt w g x u) (hg : w.grownBy w' r) (hr : r ≠ some g) : KnotAt w' g x u := by
  unfold KnotAt; rw [hg.block g h.lt (fun e => hr (by simp [← e]))]; exact h
theorem KnotAt.store {w : World} {g : Nat} {x : Int} {u : Option Addr} (h : KnotAt w g x u) (u' : Option Addr) : KnotAt (w.setCell ⟨g, 1, none⟩ (.pointer u')) g x u' := by
  unfold KnotAt; rw [heap_setCell_same w g 1 _ _ _ h]; rfl
theorem KnotAt.new (w : World) (x : Int) (u : Option Addr) : KnotAt (w.alloc (.cells #[.int .i64 x, .pointer u] 55)) w.heap.size x u :=
  heap_alloc_new w _
theorem grown_setCell (w : World) (g j : Nat) (x : Value) : w.grownBy (w.setCell ⟨g, j, none⟩ x) (some g) :=
  ⟨rfl, rfl, rfl, by simp, fun k _ hk => heap_setCell_other w ⟨g, j, none⟩ k x (fun e => hk (by simp [e]))⟩
/-- A slice of ints of the call's own is no knot. -/
theorem KnotAt.not_own {w : World} {g B : Nat} {x : Int} {u : Option Addr} {v : Value} {zs : List Int} (h : KnotAt w g x u) (ho : Own w B v zs) : v.ownBlock ≠ some g := by
  rcases ho.2 with ⟨hv, _⟩ | ⟨g', cap, cur, hv, _, hh, _⟩
  · rw [hv]; simp [Value.ownBlock]
  · rw [hv]
    simp only [Value.ownBlock, ne_eq, Option.some.injEq]
    intro e
    subst e
    unfold KnotAt at h
    rw [hh] at h
    simp at h

/-- The value leads to the knots (block, point), each in a block from B on. -/
def Chain (w : World) (B : Nat) : List (Nat × Int) → Value → Prop
  | [], v => v = .pointer none
  | (g, x) :: r, v => v = .pointer (some ⟨g, 0, none⟩) ∧ B ≤ g ∧ ∃ u, KnotAt w g x u ∧ Chain w B r (.pointer u)

theorem Chain.shape {w : World} {B : Nat} {ks : List (Nat × Int)} {v : Value} (h : Chain w B ks v) : ∃ u, v = .pointer u := by
  cases ks with
  | nil => exact ⟨none, h⟩
  | cons k r => exact ⟨_, h.1⟩

theorem Chain.below {w w' : World} (hb : Below w.heap.size w w') {B : Nat} : ∀ {ks : List (Nat × Int)} {v : Value}, Chain w B ks v → Chain w' B ks v
  | [], _, h => h
  | (_, _) :: _, _, ⟨h1, h2, u, h3, h4⟩ => ⟨h1, h2, u, h3.below hb, Chain.below hb h4⟩

theorem Chain.kept {w w' : World} {r : Option Nat} (hg : w.grownBy w' r) {B : Nat} : ∀ {ks : List (Nat × Int)} {v : Value}, Chain w B ks v → (∀ g ∈ ks.map Prod.fst, r ≠ some g) → Chain w' B ks v
  | [], _, h, _ => h
  | (_, _) :: _, _, ⟨h1, h2, u, h3, h4⟩, hr => ⟨h1, h2, u, h3.kept hg (hr _ (by simp)), Chain.kept hg h4 (fun g' hg' => hr g' (by simp at hg' ⊢; exact .inr hg'))⟩

theorem Chain.own {w w' : World} {B B' : Nat} {s : Value} {zs : List Int} (ho : Own w B' s zs) (hg : w.grownBy w' s.ownBlock) : ∀ {ks : List (Nat × Int)} {v : Value}, Chain w B ks v → Chain w' B ks v
  | [], _, h => h
  | (_, _) :: _, _, ⟨h1, h2, u, h3, h4⟩ => ⟨h1, h2, u, h3.kept hg (h3.not_own ho), Chain.own ho hg h4⟩

theorem Chain.mono {w : World} {B B' : Nat} (hB : B' ≤ B) : ∀ {ks : List (Nat × Int)} {v : Value}, Chain w B ks v → Chain w B' ks v
  | [], _, h => h
  | (_, _) :: _, _, ⟨h1, h2, u, h3, h4⟩ => ⟨h1, by omega, u, h3, Chain.mono hB h4⟩

theorem Chain.lt {w : World} {B : Nat} : ∀ {ks : List (Nat × Int)} {v : Value}, Chain w B ks v → ∀ g ∈ ks.map Prod.fst, B ≤ g ∧ g < w.heap.size
  | [], _, _ => by simp
  | (_, _) :: _, _, ⟨_, h2, _, h3, h7⟩ => by
    intro g' hg
    simp only [List.map_cons, List.mem_cons] at hg
    rcases hg with rfl | hg
    · exact ⟨h2, h3.lt⟩
    · exact Chain.lt h7 g' hg

/-- A new knot ahead. -/
theorem Chain.cons {w : World} {B : Nat} {ks : List (Nat × Int)} {u : Option Addr} (h : Chain w B ks (.pointer u)) (hB : B ≤ w.heap.size) (x : Int) :
    Chain (w.alloc (.cells #[.int .i64 x, .pointer u] 55)) B ((w.heap.size, x) :: ks) (.pointer (some ⟨w.heap.size, 0, none⟩)) :=
  ⟨rfl, hB, u, KnotAt.new w x u, Chain.below (Below.alloc (Below.refl _ _) (Nat.le_refl _) _) h⟩

theorem Chain.nodup_cons {w : World} {B : Nat} {ks : List (Nat × Int)} {v : Value} (h : Chain w B ks v) (hn : (ks.map Prod.fst).Nodup) (x : Int) : (((w.heap.size, x) :: ks).map Prod.fst).Nodup := by
  simp only [List.map_cons, List.nodup_cons]
  refine ⟨fun hm => ?_, hn⟩
  have := (h.lt _ hm).2
  omega

theorem Chain.at {w : World} {B g : Nat} {x : Int} {r : List (Nat × Int)} : ∀ {A : List (Nat × Int)} {v : Value}, Chain w B (A ++ (g, x) :: r) v → ∃ u, KnotAt w g x u ∧ Chain w B r (.pointer u)
  | [], _, ⟨_, _, u, h3, h4⟩ => ⟨u, h3, h4⟩
  | (_, _) :: _, _, ⟨_, _, _, _, h4⟩ => Chain.at h4

/-- Another rest behind the knot g. -/
theorem Chain.splice {w : World} {B g : Nat} {x : Int} {r r' : List (Nat × Int)} {u' : Option Addr} (hr : Chain w B r' (.pointer u')) (hg : g ∉ r'.map Prod.fst) :
    ∀ {A : List (Nat × Int)} {v : Value}, Chain w B (A ++ (g, x) :: r) v → g ∉ A.map Prod.fst → Chain (w.setCell ⟨g, 1, none⟩ (.pointer u')) B (A ++ (g, x) :: r') v
  | [], _, ⟨h1, h2, u, h3, _⟩, _ => ⟨h1, h2, u', h3.store u', hr.kept (grown_setCell w g 1 _) (fun g' hg' e => hg (by simp only [Option.some.injEq] at e; rw [e]; exact hg'))⟩
  | (a, _) :: _, _, ⟨h1, h2, u, h3, h4⟩, hA => ⟨h1, h2, u, h3.kept (grown_setCell w g 1 _) (fun e => hA (by simp at e; simp [e])), Chain.splice hr hg h4 (fun hm => hA (by simp at hm ⊢; exact .inr hm))⟩

/-- What a call gives that returns a new thinned line. -/
def GivesChain (zs : List Int) (w : World) (e : Ending) (w' : World) : Prop :=
  ∃ ks u, e = .returned (.pointer u) ∧ ks.map Prod.snd = zs ∧ (ks.map Prod.fst).Nodup ∧ Chain w' w.heap.size ks (.pointer u) ∧ Below w.heap.size w w'

theorem drop_step (zs : List Int) (n k : Nat) (hn : n = zs.length) (hk : k < n) : zs.drop (n - (k + 1)) = zs.getD (n - 1 - k) 0 :: zs.drop (n - k) := by
  subst hn
  have h : zs.length - (k + 1) < zs.length := by omega
  rw [List.drop_eq_getElem_cons h, show zs.length - (k + 1) + 1 = zs.length - k by omega]
  simp [show zs.length - 1 - k = zs.length - (k + 1) by omega, h]

theorem strung_any (v : Value) (zs : List Int) (w : World) (hr : Row w v zs) (hn : zs.length ≤ 1099511627776) :
    Calls Try.prog 56 #[v] w (GivesChain zs w) := by
  obtain ⟨a, cap, rfl⟩ := hr.shape
  obtain ⟨-, hc⟩ := hr.cells
  have HD := Lib.hid (drop_step zs)
  have HZ := Lib.hid (show zs.drop zs.length = [] by simp)
  obtain ⟨n, hN⟩ : ∃ n, n = zs.length := ⟨_, rfl⟩
  rw [← hN] at hc hn HZ ⊢
  have HN := Lib.hid hN; clear hN
  have HC := Lib.hid hc; clear hc hr
  go_enter Try.func56, Try.ntmps56
  go_wp2
  go_loopw [3, 4] (fun s j wr => ∃ (k : Nat) (ks : List (Nat × Int)) (u : Option Addr), k ≤ n ∧ j = .int .i64 ((n : Int) - 1 - k) ∧ s = .pointer u ∧ ks.map Prod.snd = zs.drop (n - k) ∧ (ks.map Prod.fst).Nodup ∧ Chain wr w.heap.size ks (.pointer u) ∧ Below w.heap.size w wr) (fun _ j _ => (intOf j + 1).toNat)
  case atStart => exact ⟨0, [], none, Nat.zero_le _, by go_num, rfl, by rw [Nat.sub_zero, HZ.out]; rfl, by simp, rfl, Below.refl _ _⟩
  case round =>
    obtain ⟨k, ks, u, hk, rfl, rfl, hs, hd, hch, hb⟩ := hrel
    have HS := Lib.hid hs; clear hs
    have HDu := Lib.hid hd; clear hd
    have HCh := Lib.hid hch; clear hch
    have HBe := Lib.hid hb; clear hb
    have hsz := HBe.out.size
    by_cases hlt : k < n
    · obtain ⟨b, off, rfl, hcell0⟩ := HC.out (n - 1 - k) (by omega)
      have hcell := (HBe.out.cell (World.block_lt_of_cell? w _ hcell0)).trans hcell0
      clear hcell0
      obtain ⟨x, hx⟩ : ∃ x, x = zs.getD (n - 1 - k) 0 := ⟨_, rfl⟩
      rw [← hx] at hcell
      have HX := Lib.hid hx; clear hx
      go_wp2
      go_roundw
      case rel =>
        refine ⟨k + 1, _ :: ks, _, by omega, by go_num, rfl, ?_, ?_, Chain.cons HCh.out hsz x, Below.alloc HBe.out hsz _⟩
        · rw [HD.out n k HN.out hlt, List.map_cons, HS.out, ← HX.out]
        · exact HCh.out.nodup_cons HDu.out x
      case measure => simp [intOf]; omega
    · have hke : k = n := by omega
      subst hke
      go_wp2
      go_ret
      exact ⟨ks, u, rfl, by rw [HS.out, Nat.sub_self, List.drop_zero], HDu.out, HCh.out, HBe.out⟩

theorem points_any (u : Option Addr) (ks : List (Nat × Int)) (B : Nat) (w : World) (hc : Chain w B ks (.pointer u)) (hn : ks.length ≤ 1099511627776) :
    Calls Try.prog 61 #[.pointer u] w (GivesRow (ks.map Prod.snd) w) := by
  have HCh := Lib.hid hc; clear hc
  go_enter Try.func61, Try.ntmps61
  go_wp2
  go_loopg [0, 3] ks.length (fun gk s out wr => ∃ (ds rs : List (Nat × Int)) (t : Option Addr), ks = ds ++ rs ∧ gk = rs.length ∧ s = .pointer t ∧ Chain w B rs (.pointer t) ∧ Own wr w.heap.size out (ds.map Prod.snd) ∧ Below w.heap.size w wr)
  case atStart => exact ⟨[], ks, u, rfl, rfl, rfl, HCh.out, Own.emptyLit w _ (Nat.le_refl _), Below.alloc (Below.refl _ _) (Nat.le_refl _) _⟩
  case round =>
    obtain ⟨ds, rs, t, hks, hgk, rfl, hch, ho, hb⟩ := hrel
    have hsz := hb.size
    have HO := Lib.hid ho; clear ho
    have HBe := Lib.hid hb; clear hb
    cases rs with
    | nil =>
      have HK := Lib.hid hks; clear hks hgk
      have ht : t = none := by simpa [Chain] using hch
      subst ht
      clear hch
      go_wp2
      go_ret
      rw [HK.out, List.append_nil]
      exact GivesRow.of HO.out HBe.out
    | cons k r =>
      obtain ⟨g, x⟩ := k
      obtain ⟨h1, h2, t', hk, h7⟩ := hch
      have h3 := hk.lt
      have h4 := hk.cell0
      have h6 := hk.cell1
      simp only [Value.pointer.injEq] at h1
      subst h1
      clear hk
      have hlen : (ds.map Prod.snd).length ≤ 1099511627776 := by
        have := congrArg List.length hks
        simp at this
        simp; omega
      have HK := Lib.hid (show ks = (ds ++ [(g, x)]) ++ r by rw [hks]; simp)
      have HG := Lib.hid (show r.length < gk by rw [hgk]; simp)
      clear hks hgk
      have H7 := Lib.hid h7; clear h7
      obtain ⟨L, hL⟩ : ∃ L, L = ds.map Prod.snd := ⟨_, rfl⟩
      have HLL := Lib.hid (show (ds ++ [(g, x)]).map Prod.snd = L ++ [x] by rw [hL]; simp)
      rw [← hL] at HO hlen
      clear hL
      have H6 := Lib.hid h6
      have k4 := (HBe.out.cell (p := ⟨g, 0, none⟩) h3).trans h4
      clear h4 h6
      go_wp2_with (at_builtin; refine append1 (by rfl) _ _ (by rfl) (w.heap.size) _ (L) (x) (by rfl) (by rfl) (HO.out) (hsz) (hlen) ?_; intro v' w3 ho3 hg3; (have HB3 := Lib.hid (below_own HBe.out HO.out hsz hg3)); (have k6 := (HB3.out.cell (p := ⟨g, 1, none⟩) h3).trans H6.out))
      go_roundg r.length
      case measure => exact HG.out
      case rel => exact ⟨ds ++ [(g, x)], r, t', HK.out, rfl, rfl, H7.out, by rw [HLL.out]; exact ho3, HB3.out⟩

theorem count_any (u : Option Addr) (ks : List (Nat × Int)) (B : Nat) (w : World) (hc : Chain w B ks (.pointer u)) (hn : ks.length ≤ 1099511627776) :
    Calls Try.prog 64 #[.pointer u] w fun e w' => e = .returned (.int .i64 ks.length) ∧ w = w' := by
  have HCh := Lib.hid hc; clear hc
  go_enter Try.func64, Try.ntmps64
  go_wp2
  go_loopg [0, 3] ks.length (fun gk s m wr => ∃ (rs : List (Nat × Int)) (t : Option Addr) (c : Nat), c + rs.length = ks.length ∧ gk = rs.length ∧ s = .pointer t ∧ Chain w B rs (.pointer t) ∧ m = .int .i64 c ∧ wr = w)
  case atStart => exact ⟨ks, u, 0, by omega, rfl, rfl, HCh.out, rfl, rfl⟩
  case round =>
    obtain ⟨rs, t, c, hks, hgk, rfl, hch, rfl, rfl⟩ := hrel
    cases rs with
    | nil =>
      have HK := Lib.hid hks; clear hks hgk
      have ht : t = none := by simpa [Chain] using hch
      subst ht
      clear hch
      go_wp2
      go_ret
      exact ⟨ret_int (by have := HK.out; simp at this; omega), rfl⟩
    | cons k r =>
      obtain ⟨g, x⟩ := k
      obtain ⟨h1, h2, t', hk, h7⟩ := hch
      have h6 := hk.cell1
      simp only [Value.pointer.injEq] at h1
      subst h1
      clear hk
      simp only [List.length_cons] at hks hgk
      have hc : c ≤ 1099511627776 := by omega
      have HK := Lib.hid hks
      have HG := Lib.hid (show r.length < gk by omega)
      clear hks hgk
      have H7 := Lib.hid h7; clear h7
      go_wp2
      go_roundg r.length
      case measure => exact HG.out
      case rel => exact ⟨r, t', c + 1, by have := HK.out; omega, rfl, rfl, H7.out, by go_num, rfl⟩

end Go.Proofs.Ytonehpndbbojpaa
