/- Plain law of the way over a pass. -/
import Derived.Test.YtkhhloeemecokaaPlainWay
namespace Go.Proofs.Ytkhhloeemecokaa

def lowW (h : Nat → Int) (H : Nat → Nat) : Nat → Int
  | 0 => h (H 0)
  | k + 1 => min (lowW h H k) (h (H k))
theorem hbL_get {H : Nat → Nat} {d k : Nat} (hk : k ≤ d) : (hbL H d).getD k 0 = (H k : Int) := by
  unfold hbL
  rw [List.getD_eq_getElem?_getD, List.getElem?_map, List.getElem?_range (by omega)]
  rfl
theorem lowW_ge {h : Nat → Int} {H : Nat → Nat} {p : Int} : ∀ k, (∀ j, j < k → p ≤ h (H j)) → p ≤ h (H 0) → p ≤ lowW h H k
  | 0, _, h0 => h0
  | k + 1, hj, h0 => by
    have h1 := lowW_ge k (fun j hj' => hj j (by omega)) h0
    have h2 := hj k (by omega)
    show p ≤ min _ _
    omega
theorem lowW_le {h : Nat → Int} {H : Nat → Nat} : ∀ k, ∀ j, j < k → lowW h H k ≤ h (H j)
  | 0, j, hj => absurd hj (by omega)
  | k + 1, j, hj => by
    show min _ _ ≤ _
    by_cases e : j = k
    · subst e; omega
    · have := lowW_le (h := h) (H := H) k j (by omega)
      omega
theorem HB_shift {nb : Nat → List Int} {far : List Int} {b a : Nat} : ∀ k, HB nb far b (HB nb far b a 1) k = HB nb far b a (k + 1)
  | 0 => rfl
  | k + 1 => by
    show (if HB nb far b (HB nb far b a 1) k = b then b else nextB far (far.getD (HB nb far b (HB nb far b a 1) k) 0 - 1) (nb (HB nb far b (HB nb far b a 1) k)) (HB nb far b (HB nb far b a 1) k)) = _
    rw [HB_shift k]
    rfl
/-- All that the law asks of a way. -/
structure WayFacts (N : Nat) (nb : Nat → List Int) (h : Nat → Int) (a b : Nat) (H : Nat → Nat) (d : Nat) : Prop where
  way : wayL N nb h a b = hbL H d
  dlt : d < N
  first : H 0 = a
  last : H d = b
  lt : ∀ k, k ≤ d → H k < N
  next : ∀ k, k < d → ((H (k + 1) : Nat) : Int) ∈ nb (H k)
  apart : ∀ k i, k < i → i ≤ d → H k ≠ H i
  low : lowW h H (d + 1) = passV nb h a b
  tail : 0 < d → passV nb h (H 1) b = passV nb h a b → wayL N nb h (H 1) b = (hbL H d).drop 1
theorem way_facts {N : Nat} {nb : Nat → List Int} {h : Nat → Int} {a b : Nat} (G : Gr N nb h) (ha : a < N) (hb : b < N) : ∃ H d, WayFacts N nb h a b H d := by
  obtain ⟨S, hFa⟩ := way_steps G ha hb
  have hp := passV_is G ha hb
  obtain ⟨far, hfar⟩ : ∃ far, far = stepsL N nb h (passV nb h a b) b := ⟨_, rfl⟩
  rw [← hfar] at S hFa
  obtain ⟨d, hd⟩ : ∃ d, d = (far.getD a 0).toNat := ⟨_, rfl⟩
  have hInv := H_inv S G ha hFa
  have hEnd := H_end S G ha hFa
  rw [← hd] at hInv hEnd
  obtain ⟨H, hH⟩ : ∃ H, H = HB nb far b a := ⟨_, rfl⟩
  rw [← hH] at hInv hEnd
  have hW : wayL N nb h a b = hbL H d := by
    unfold wayL hbL
    rw [← hfar, ← hd, hH]
  have hdN : d < N := by have := S.up a ha; omega
  have hnext : ∀ k, k < d → ((H (k + 1) : Nat) : Int) ∈ nb (H k) := by
    intro k hk
    obtain ⟨h1, h2⟩ := hInv k (by omega)
    have hne : H k ≠ b := by
      rw [hH]
      exact H_ne S G ha hFa (by rw [← hd]; exact hk)
    obtain ⟨m, j, m1, m2, m3, -, -, m6⟩ := S.next G h1 (by omega)
    have e : H (k + 1) = j := by
      rw [hH] at hne m6 ⊢
      show (if HB nb far b a k = b then b else _) = j
      rw [if_neg hne]
      exact m6
    rw [e, ← m2, List.getD_eq_getElem?_getD, List.getElem?_eq_getElem m1]
    simp
  have hge : ∀ k, k ≤ d → passV nb h a b ≤ h (H k) := fun k hk => by
    obtain ⟨h1, h2⟩ := hInv k hk
    exact S.low _ h1 (by omega)
  have h0 : H 0 = a := by rw [hH]; rfl
  refine ⟨H, d, hW, hdN, h0, hEnd, fun k hk => (hInv k hk).1, hnext, fun k i hki hi e => ?_, ?_, fun hd0 hpp => ?_⟩
  · obtain ⟨-, e1⟩ := hInv k (by omega)
    obtain ⟨-, e2⟩ := hInv i hi
    rw [e] at e1
    omega
  · have l1 : passV nb h a b ≤ lowW h H (d + 1) := lowW_ge _ (fun j hj => hge j (by omega)) (hge 0 (by omega))
    have l2 := lowW_le (h := h) (H := H) (d + 1)
    have hr : ∀ k, k ≤ d → Reach nb h (lowW h H (d + 1)) a (H k) := by
      intro k
      induction k with
      | zero => intro _; rw [h0]; have := l2 0 (by omega); rw [h0] at this; exact .refl this
      | succ k ih => intro hk; exact .step (ih (by omega)) (hnext k (by omega)) (l2 (k + 1) (by omega))
    have l3 := hp.2 _ (by have := hr d (Nat.le_refl _); rw [hEnd] at this; exact this)
    omega
  · have e1 : far.getD (H 1) 0 = ((d - 1 : Nat) : Int) := by rw [(hInv 1 hd0).2]; omega
    have hW1 : wayL N nb h (H 1) b = hbL (HB nb far b (H 1)) (d - 1) := by
      unfold wayL hbL
      rw [hpp, ← hfar, e1, Int.toNat_natCast]
    rw [hW1]
    apply List.ext_getElem
    · rw [List.length_drop, hbL_len, hbL_len]; omega
    · intro i i1 i2
      rw [List.getElem_drop]
      simp only [hbL, List.getElem_map, List.getElem_range]
      have := HB_shift (nb := nb) (far := far) (b := b) (a := a) i
      rw [← hH] at this
      rw [this, Nat.add_comm]

end Go.Proofs.Ytkhhloeemecokaa
