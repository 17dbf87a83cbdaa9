/- Plain words: the list of all passes from a cell; the number of cells whose pass is not known. -/
import Derived.Test.YtkhhloeemecokaaPlainR
namespace Go.Proofs.Ytkhhloeemecokaa

def unkN (l : List Int) : Nat := l.countP (fun x => decide (x < 0))
theorem unk_set : ∀ {l : List Int} {k : Nat} (_ : k < l.length) (_ : l.getD k 0 < 0) {p : Int} (_ : 0 ≤ p), unkN (l.set k p) + 1 = unkN l
  | x :: l, 0, _, h1, p, hp => by
    have h1 : x < 0 := by simpa using h1
    simp only [unkN, List.set_cons_zero, List.countP_cons]
    rw [if_neg (by simpa using hp), if_pos (by simpa using h1)]
  | x :: l, k + 1, h, h1, p, hp => by
    have := unk_set (l := l) (k := k) (by simpa using h) (by simpa using h1) hp
    simp only [unkN, List.set_cons_succ, List.countP_cons] at this ⊢
    omega
theorem unk_le (l : List Int) : unkN l ≤ l.length := List.countP_le_length
open Classical in
noncomputable def passV (nb : Nat → List Int) (h : Nat → Int) (a b : Nat) : Int := if e : ∃ p, IsPass nb h a b p then e.choose else -1
noncomputable def passL (N : Nat) (nb : Nat → List Int) (h : Nat → Int) (a : Nat) : List Int := (List.range N).map (passV nb h a)
theorem passV_eq {nb : Nat → List Int} {h : Nat → Int} {a b : Nat} {p : Int} (hp : IsPass nb h a b p) : passV nb h a b = p := by
  have e : ∃ p, IsPass nb h a b p := ⟨p, hp⟩
  unfold passV
  rw [dif_pos e]
  exact e.choose_spec.unique hp
theorem passL_len (N : Nat) (nb : Nat → List Int) (h : Nat → Int) (a : Nat) : (passL N nb h a).length = N := by simp [passL]
theorem passL_get {N : Nat} {nb : Nat → List Int} {h : Nat → Int} {a b : Nat} (hb : b < N) : (passL N nb h a).getD b 0 = passV nb h a b := by
  rw [List.getD_eq_getElem?_getD, List.getElem?_eq_getElem (by rw [passL_len]; exact hb)]
  simp [passL]
theorem passL_eq {N : Nat} {nb : Nat → List Int} {h : Nat → Int} {a : Nat} {l : List Int} (hl : l.length = N) (hp : ∀ b, b < N → IsPass nb h a b (l.getD b 0)) : l = passL N nb h a := by
  apply List.ext_getElem
  · rw [passL_len]; exact hl
  · intro i h1 h2
    have := passV_eq (hp i (by omega))
    rw [List.getD_eq_getElem?_getD, List.getElem?_eq_getElem h1] at this
    simp only [Option.getD_some] at this
    simp [passL, this]

end Go.Proofs.Ytkhhloeemecokaa
