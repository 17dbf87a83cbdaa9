/- Contract: l7Find of the reference. -/
import Derived.Test.YtlmigoplffdpiaaDec
namespace Go.Proofs.Ytlmigoplffdpiaa
open Go.RowKit

/-- The bytes of a name tell its sheet. -/
theorem name_inj {c r c' r' : Nat} (hc : c < 26) (hr : r < 26) (hc' : c' < 26) (hr' : r' < 26) (h : strOfNums (nameL c r) = strOfNums (nameL c' r')) : c = c' ∧ r = r' := by
  have h1 : (nameL c r).map (fun n => UInt8.ofNat n.toNat) = (nameL c' r').map (fun n => UInt8.ofNat n.toNat) := by
    have := congrArg (fun s => s.data.toList) h
    simpa only [strOfNums_data] using this
  have inj : ∀ a b : Int, 0 ≤ a → a < 256 → 0 ≤ b → b < 256 → UInt8.ofNat a.toNat = UInt8.ofNat b.toNat → a = b := by
    intro a b a0 a1 b0 b1 e
    have := congrArg UInt8.toNat e
    simp only [UInt8.toNat_ofNat'] at this
    omega
  unfold nameL decL at h1
  by_cases e1 : c + 1 < 10 <;> by_cases e2 : c' + 1 < 10
  · rw [if_pos e1, if_pos e2] at h1
    simp only [List.map_cons, List.map_nil, List.cons.injEq, and_true] at h1
    have a := inj _ _ (by omega) (by omega) (by omega) (by omega) h1.1
    have b := inj _ _ (by omega) (by omega) (by omega) (by omega) h1.2
    omega
  · rw [if_pos e1, if_neg e2] at h1
    have := congrArg List.length h1
    simp at this
  · rw [if_neg e1, if_pos e2] at h1
    have := congrArg List.length h1
    simp at this
  · rw [if_neg e1, if_neg e2] at h1
    simp only [List.map_cons, List.map_nil, List.cons.injEq, and_true] at h1
    have a := inj _ _ (by omega) (by omega) (by omega) (by omega) h1.1
    have b := inj _ _ (by omega) (by omega) (by omega) (by omega) h1.2.1
    have d := inj _ _ (by omega) (by omega) (by omega) (by omega) h1.2.2
    omega

theorem list_inj {a b : ByteArray} (h : a.toList = b.toList) : a = b := by
  rw [ByteArray.toList_eq, ByteArray.toList_eq] at h
  exact ByteArray.ext (Array.toList_inj.1 h)

def IsName (S : ByteArray) (c r : Nat) : Prop := c < 26 ∧ r < 26 ∧ S = strOfNums (nameL c r)
def NoName (S : ByteArray) : Prop := ∀ c r, ¬ IsName S c r
/-- What l7Find gives. -/
def Finds (S : ByteArray) (w : World) (e : Ending) (w' : World) : Prop :=
  ((∃ c r : Nat, IsName S c r ∧ e = .returned (.tuple #[.int .i64 c, .int .i64 r, .bool true])) ∨ (NoName S ∧ e = .returned (.tuple #[.int .i64 0, .int .i64 0, .bool false]))) ∧ Below w.heap.size w w'

set_option maxHeartbeats 400000 in
theorem find_any (S : ByteArray) (w : World) :
    Calls Try.prog 22 #[.string S] w (Finds S w) := by
  have HN := Lib.hid (fun c r wx hc hr => name_any c r wx hc hr)
  go_enter Try.func22, Try.ntmps22
  go_wp2
  go_loopw [5] (fun i wr => ∃ r : Nat, r ≤ 26 ∧ i = .int .i64 r ∧ (∀ c' r', r' < r → ¬ IsName S c' r') ∧ Below w.heap.size w wr) (fun i _ => 26 - (intOf i).toNat)
  case atStart => exact ⟨0, by omega, rfl, fun _ _ h => by omega, Below.refl _ _⟩
  case round =>
    obtain ⟨r, hr, rfl, hno, hb⟩ := hrel
    have HNo := Lib.hid hno
    have HB := Lib.hid hb
    clear hno hb
    by_cases hlt : r < 26
    · have h1 : (r : Int) < 26 := by omega
      go_wp2
      obtain ⟨wo, rfl⟩ : ∃ wo : World, wo = wr := ⟨_, rfl⟩
      go_loopw [6] (fun i wr => ∃ c : Nat, c ≤ 26 ∧ i = .int .i64 c ∧ (∀ c', c' < c → ¬ IsName S c' r) ∧ Below w.heap.size w wr) (fun i _ => 26 - (intOf i).toNat)
      case atStart => exact ⟨0, by omega, rfl, fun _ h => by omega, HB.out⟩
      case round =>
        obtain ⟨c, hc, rfl, hno, hb⟩ := hrel
        have HNo2 := Lib.hid hno
        have HB2 := Lib.hid hb
        clear hno hb
        by_cases hlt2 : c < 26
        · have h2 : (c : Int) < 26 := by omega
          by_cases he : strOfNums (nameL c r) = S
          · have e1 : ((strOfNums (nameL c r)).toList == S.toList) = true := by rw [he]; simp
            have HE := Lib.hid he
            clear he
            go_wp2_with fail
            refine (HN.out c r _ hlt2 hlt).mono ?_
            rintro e w' ⟨rfl, hb⟩
            have HB3 := Lib.hid (HB2.out.trans (hb.mono HB2.out.size))
            clear hb
            go_wp2
            go_ret3
            exact ⟨.inl ⟨c, r, ⟨hlt2, hlt, HE.out.symm⟩, rfl⟩, HB3.out⟩
          · have e1 : ((strOfNums (nameL c r)).toList == S.toList) = false := by simp only [beq_eq_false_iff_ne, ne_eq]; exact fun h => he (list_inj h)
            have HE := Lib.hid he
            clear he
            go_wp2_with fail
            refine (HN.out c r _ hlt2 hlt).mono ?_
            rintro e w' ⟨rfl, hb⟩
            have HB3 := Lib.hid (HB2.out.trans (hb.mono HB2.out.size))
            clear hb
            go_wp2
            go_roundw
            case rel =>
              refine ⟨c + 1, by omega, by go_num, fun c' h hn => ?_, HB3.out⟩
              by_cases ec : c' = c
              · subst ec; exact HE.out hn.2.2.symm
              · exact HNo2.out c' (by omega) hn
            case measure => simp [intOf]; omega
        · have h2 : ¬ (c : Int) < 26 := by omega
          have hc26 : c = 26 := by omega
          have HNo3 := Lib.hid (show ∀ c', ¬ IsName S c' r from fun c' hn => HNo2.out c' (by have := hn.1; omega) hn)
          clear hc26
          go_wp2
          go_roundw
          case rel =>
            refine ⟨r + 1, by omega, by go_num, fun c' r' h hn => ?_, HB2.out⟩
            by_cases er : r' = r
            · subst er; exact HNo3.out c' hn
            · exact HNo.out c' r' (by omega) hn
          case measure => simp [intOf]; omega
    · have h1 : ¬ (r : Int) < 26 := by omega
      have HNo3 := Lib.hid (show NoName S from fun c' r' hn => HNo.out c' r' (by have := hn.2.1; omega) hn)
      go_wp2
      go_ret3
      exact ⟨.inr ⟨HNo3.out, rfl⟩, HB.out⟩

end Go.Proofs.Ytlmigoplffdpiaa
