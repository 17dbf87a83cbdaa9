/- Contracts of the draws of thinned profiles. -/
import Derived.Test.YtbehpooapnjpeaaDThin
namespace Go.Proofs.Ytbehpooapnjpeaa
open Go.RowKit

theorem Own.lit3 (w : World) (B : Nat) (x y z : Int) (hB : B ≤ w.heap.size) : Own (w.alloc (.cells #[.int .i64 x, .int .i64 y, .int .i64 z] 3)) B (.slice (some ⟨w.heap.size, 0, none⟩) 3 3) [x, y, z] :=
  World.ownsRow_lit (e := 3) (size := 1) w #[.int .i64 x, .int .i64 y, .int .i64 z] 3 hB (by decide) rfl

/-- A profile and points. -/
def GivesT (w : World) (e : Ending) (w' : World) : Prop :=
  ∃ ps ls av cv al cl, e = .returned (.tuple #[.slice av ps.length cv, .slice al ls.length cl]) ∧ ps.length ≤ 8 ∧ ls.length ≤ 8 ∧ Row w' (.slice av ps.length cv) ps ∧ Row w' (.slice al ls.length cl) ls ∧
    (thinB ps ls = true → Own w' w.heap.size (.slice al ls.length cl) ls) ∧ Below w.heap.size w w'
theorem GivesT.of {w w' : World} {ps ls : List Int} {av al : Option Addr} {cv cl n k : Nat} (hn : n = ps.length) (hk : k = ls.length) (h1 : n ≤ 8) (h2 : k ≤ 8) (h3 : Own w' w.heap.size (.slice av n cv) ps) {B : Nat} (h4 : Sub w' B (.slice al k cl) ls)
    (h5 : thinB ps ls = true → Own w' w.heap.size (.slice al k cl) ls) (h6 : Below w.heap.size w w') : GivesT w (.returned (.tuple #[.slice av n cv, .slice al k cl])) w' := by
  subst hn hk; exact ⟨ps, ls, av, cv, al, cl, rfl, h1, h2, h3.row, h4.row, h5, h6⟩
/-- A profile, points and a number. -/
def GivesTN (lo hi : Int) (w : World) (e : Ending) (w' : World) : Prop :=
  ∃ ps ls av cv al cl x, e = .returned (.tuple #[.slice av ps.length cv, .slice al ls.length cl, .int .i64 x]) ∧ ps.length ≤ 8 ∧ ls.length ≤ 8 ∧ Row w' (.slice av ps.length cv) ps ∧ Row w' (.slice al ls.length cl) ls ∧
    (thinB ps ls = true → Own w' w.heap.size (.slice al ls.length cl) ls) ∧ lo ≤ x ∧ x ≤ hi ∧ Below w.heap.size w w'
theorem GivesTN.of {w w' : World} {lo hi : Int} {ps ls : List Int} {av al : Option Addr} {cv cl n k : Nat} (hn : n = ps.length) (hk : k = ls.length) (h1 : n ≤ 8) (h2 : k ≤ 8) (h3 : Own w' w.heap.size (.slice av n cv) ps) {B : Nat} (h4 : Sub w' B (.slice al k cl) ls)
    (h5 : thinB ps ls = true → Own w' w.heap.size (.slice al k cl) ls) {x : Int} (hx : lo ≤ x) (hy : x ≤ hi) (h6 : Below w.heap.size w w') : GivesTN lo hi w (.returned (.tuple #[.slice av n cv, .slice al k cl, .int .i64 x])) w' := by
  subst hn hk; exact ⟨ps, ls, av, cv, al, cl, x, rfl, h1, h2, h3.row, h4.row, h5, hx, hy, h6⟩


/-- A profile and a number. -/
def GivesPN (lo hi : Int) (w : World) (e : Ending) (w' : World) : Prop :=
  ∃ ps av cv x, e = .returned (.tuple #[.slice av ps.length cv, .int .i64 x]) ∧ ps.length ≤ 9 ∧ Row w' (.slice av ps.length cv) ps ∧ lo ≤ x ∧ x ≤ hi ∧ Below w.heap.size w w'
theorem GivesPN.of {w w' : World} {lo hi : Int} {ps : List Int} {av : Option Addr} {cv n : Nat} (hn : n = ps.length) (h1 : n ≤ 9) (h3 : Own w' w.heap.size (.slice av n cv) ps) {x : Int} (hx : lo ≤ x) (hy : x ≤ hi) (h6 : Below w.heap.size w w') : GivesPN lo hi w (.returned (.tuple #[.slice av n cv, .int .i64 x])) w' := by
  subst hn; exact ⟨ps, av, cv, x, rfl, h1, h3.row, hx, hy, h6⟩

end Go.Proofs.Ytbehpooapnjpeaa
