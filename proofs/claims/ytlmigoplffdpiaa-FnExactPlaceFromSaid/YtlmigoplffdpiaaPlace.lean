/- Contracts: l7Letter, PlaceName and PlaceFrom of the reference. -/
import Derived.Test.YtlmigoplffdpiaaSheet
namespace Go.Proofs.Ytlmigoplffdpiaa
open Go.RowKit

/-- The letter of a half in two directions. -/
def letN (e s : Nat) : Int := 97 + 2 * (s : Int) + (e : Int)
theorem letter_any (e s : Nat) (w : World) (he : e < 2) (hs : s < 2) :
    Calls Try.prog 40 #[.int .i64 e, .int .i64 s] w fun en w' => en = .returned (.string (strOfNums [letN e s])) ∧ w = w' := by
  have h : (e = 0 ∨ e = 1) ∧ (s = 0 ∨ s = 1) := by omega
  obtain ⟨he', hs'⟩ := h
  clear he hs
  rcases he' with rfl | rfl <;> rcases hs' with rfl | rfl
  all_goals
    go_enter Try.func40, Try.ntmps40
    go_wp2
    go_ret
    exact ⟨congrArg (fun s => Ending.returned (Value.string s)) (by kernel_rfl), rfl⟩

theorem place_yes (x y : Int) (w : World) (h1 : 0 ≤ x) (h2 : x ≤ 103) (h3 : 0 ≤ y) (h4 : y ≤ 103) :
    Calls Try.prog 47 #[.int .i64 x, .int .i64 y] w fun e w' => e = .returned (.bool true) ∧ w = w' := by
  go_enter Try.func47, Try.ntmps47
  go_wp2
  go_ret
  exact ⟨ret_bool (by simp <;> omega), rfl⟩

theorem sheetof_any (c r : Nat) (X Y : Int) (w : World) (hc : c < 26) (hr : r < 26) (hX0 : 0 ≤ X) (hY0 : 0 ≤ Y) (hX : X / 4 = (c : Int)) (hY : Y / 4 = (r : Int)) :
    Calls Try.prog 39 #[.int .i64 X, .int .i64 Y] w fun e w' => e = .returned (.tuple #[.string (strOfNums (nameL c r)), .bool true]) ∧ Below w.heap.size w w' := by
  have HP := Lib.hid (fun wx => place_yes X Y wx hX0 (by omega) hY0 (by omega))
  have HN := Lib.hid (fun wx => name_any c r wx hc hr)
  have hX1 : X ≤ 103 := by omega
  have hY1 : Y ≤ 103 := by omega
  clear hc hr
  go_enter Try.func39, Try.ntmps39
  go_wp2_with fail
  with_reducible refine (HP.out _).mono ?_
  rintro e w' ⟨rfl, rfl⟩
  go_wp2_with fail
  with_reducible refine (HN.out _).mono ?_
  rintro e w' ⟨rfl, hb⟩
  go_wp2
  go_ret2
  exact ⟨rfl, hb⟩

/-- The full name of a place. -/
def placeL (c r dx dy : Nat) : List Int := nameL c r ++ [letN (dx / 2) (dy / 2), letN (dx % 2) (dy % 2)]
theorem nameL_len (c r : Nat) : (nameL c r).length ≤ 3 := by unfold nameL; have := decL_len (c + 1); simp; omega
theorem pname_any (c r dx dy : Nat) (X Y : Int) (w : World) (hc : c < 26) (hr : r < 26) (hdx : dx < 4) (hdy : dy < 4) (hX : X = (c : Int) * 4 + dx) (hY : Y = (r : Int) * 4 + dy) :
    Calls Try.prog 27 #[.int .i64 X, .int .i64 Y] w fun e w' => e = .returned (.tuple #[.string (strOfNums (placeL c r dx dy)), .bool true]) ∧ Below w.heap.size w w' := by
  have hX0 : 0 ≤ X := by omega
  have hY0 : 0 ≤ Y := by omega
  have hX1 : X ≤ 103 := by omega
  have hY1 : Y ≤ 103 := by omega
  have HS := Lib.hid (fun wx => sheetof_any c r X Y wx hc hr hX0 hY0 (by omega) (by omega))
  obtain ⟨e1, h1⟩ : ∃ e, e = dx / 2 := ⟨_, rfl⟩
  obtain ⟨s1, h2⟩ : ∃ e, e = dy / 2 := ⟨_, rfl⟩
  obtain ⟨e2, h3⟩ : ∃ e, e = dx % 2 := ⟨_, rfl⟩
  obtain ⟨s2, h4⟩ : ∃ e, e = dy % 2 := ⟨_, rfl⟩
  have t1 : X / 2 % 2 = (e1 : Int) := by omega
  have t2 : Y / 2 % 2 = (s1 : Int) := by omega
  have t3 : X % 2 = (e2 : Int) := by omega
  have t4 : Y % 2 = (s2 : Int) := by omega
  have HL1 := Lib.hid (fun wx => letter_any e1 s1 wx (by omega) (by omega))
  have HL2 := Lib.hid (fun wx => letter_any e2 s2 wx (by omega) (by omega))
  unfold placeL
  rw [← h1, ← h2, ← h3, ← h4]
  have l1 : (strOfNums (nameL c r)).size ≤ 3 := by rw [strOfNums_size]; exact nameL_len c r
  have l2 : (strOfNums [letN e1 s1]).size = 1 := by rw [strOfNums_size]; rfl
  have l3 : (strOfNums [letN e2 s2]).size = 1 := by rw [strOfNums_size]; rfl
  have q1 : ¬ 9223372036854775807 < (strOfNums (nameL c r)).size + (strOfNums [letN e1 s1]).size := by omega
  have q2 : ¬ 9223372036854775807 < (strOfNums (nameL c r) ++ strOfNums [letN e1 s1]).size + (strOfNums [letN e2 s2]).size := by rw [ByteArray.size_append]; omega
  have q3 : ¬ 9223372036854775807 < (strOfNums (nameL c r)).size + 1 := by omega
  have q4 : ¬ 9223372036854775807 < (strOfNums (nameL c r)).size + 1 + 1 := by omega
  have q5 : (strOfNums (nameL c r) ++ strOfNums [letN e1 s1] ++ strOfNums [letN e2 s2]) = strOfNums (nameL c r ++ [letN e1 s1, letN e2 s2]) := by rw [str_add, str_add]; simp
  have Q5 := Lib.hid q5
  clear h1 h2 h3 h4 hX hY hc hr hdx hdy q5 l1
  go_enter Try.func27, Try.ntmps27
  go_wp2_with fail
  with_reducible refine (HS.out _).mono ?_
  rintro e w' ⟨rfl, hb⟩
  have HB := Lib.hid hb
  clear hb
  go_wp2_with fail
  with_reducible refine (HL1.out _).mono ?_
  rintro e w' ⟨rfl, rfl⟩
  go_wp2_with fail
  with_reducible refine (HL2.out _).mono ?_
  rintro e w' ⟨rfl, rfl⟩
  go_wp2
  go_ret2
  exact ⟨by rw [Q5.out]; rfl, HB.out⟩

def IsPlace (S : ByteArray) (c r dx dy : Nat) : Prop := c < 26 ∧ r < 26 ∧ dx < 4 ∧ dy < 4 ∧ S = strOfNums (placeL c r dx dy)
def NoPlace (S : ByteArray) : Prop := ∀ c r dx dy, ¬ IsPlace S c r dx dy
/-- What PlaceFrom gives. -/
def pfromV (S : ByteArray) (a b : Int) (o : Bool) : Prop := (∃ c r dx dy : Nat, IsPlace S c r dx dy ∧ a = (c : Int) * 4 + dx ∧ b = (r : Int) * 4 + dy ∧ o = true) ∨ (NoPlace S ∧ a = 0 ∧ b = 0 ∧ o = false)

theorem letN_bd {e s : Nat} (he : e < 2) (hs : s < 2) : 97 ≤ letN e s ∧ letN e s ≤ 100 := by unfold letN; omega
/-- A name of a place is a name of a sheet and two letters. -/
theorem strOfNums_app2 (xs : List Int) (a b : Int) : (strOfNums (xs ++ [a, b])).extract 0 ((strOfNums (xs ++ [a, b])).size - 2) = strOfNums xs := by
  apply ByteArray.ext
  apply Array.toList_inj.1
  rw [strOfNums_size]
  simp [strOfNums_data]
theorem place_pre {S : ByteArray} {c r dx dy : Nat} (h : IsPlace S c r dx dy) : IsName (S.extract 0 (S.size - 2)) c r := by
  obtain ⟨hc, hr, hdx, hdy, rfl⟩ := h
  exact ⟨hc, hr, by unfold placeL; rw [strOfNums_app2]⟩
theorem place_sz {S : ByteArray} {c r dx dy : Nat} (h : IsPlace S c r dx dy) : 4 ≤ S.size ∧ S.size ≤ 5 := by
  obtain ⟨hc, hr, hdx, hdy, rfl⟩ := h
  rw [strOfNums_size]
  unfold placeL nameL decL
  split <;> simp

theorem placeL_inj {c r dx dy dx' dy' : Nat} (h1 : dx < 4) (h2 : dy < 4) (h3 : dx' < 4) (h4 : dy' < 4) (h : strOfNums (placeL c r dx dy) = strOfNums (placeL c r dx' dy')) : dx = dx' ∧ dy = dy' := by
  have h5 : (placeL c r dx dy).map (fun n => UInt8.ofNat n.toNat) = (placeL c r dx' dy').map (fun n => UInt8.ofNat n.toNat) := by
    have := congrArg (fun s => s.data.toList) h
    simpa only [strOfNums_data] using this
  have inj : ∀ a b : Int, 0 ≤ a → a < 256 → 0 ≤ b → b < 256 → UInt8.ofNat a.toNat = UInt8.ofNat b.toNat → a = b := by
    intro a b a0 a1 b0 b1 e
    have := congrArg UInt8.toNat e
    simp only [UInt8.toNat_ofNat'] at this
    omega
  unfold placeL at h5
  rw [List.map_append, List.map_append] at h5
  have h6 := List.append_cancel_left h5
  simp only [List.map_cons, List.map_nil, List.cons.injEq, and_true] at h6
  unfold letN at h6
  have a := inj _ _ (by omega) (by omega) (by omega) (by omega) h6.1
  have b := inj _ _ (by omega) (by omega) (by omega) (by omega) h6.2
  omega
theorem place_inj {S : ByteArray} {c r dx dy c' r' dx' dy' : Nat} (h : IsPlace S c r dx dy) (h' : IsPlace S c' r' dx' dy') : c = c' ∧ r = r' ∧ dx = dx' ∧ dy = dy' := by
  have n1 := place_pre h
  have n2 := place_pre h'
  have e := name_inj n1.1 n1.2.1 n2.1 n2.2.1 (n1.2.2.symm.trans n2.2.2)
  obtain ⟨rfl, rfl⟩ := e
  have := placeL_inj h.2.2.1 h.2.2.2.1 h'.2.2.1 h'.2.2.2.1 (h.2.2.2.2.symm.trans h'.2.2.2.2)
  exact ⟨rfl, rfl, this⟩
/-- What PlaceFrom gives. -/
def PFinds (S : ByteArray) (w : World) (e : Ending) (w' : World) : Prop :=
  ((∃ c r dx dy : Nat, IsPlace S c r dx dy ∧ e = .returned (.tuple #[.int .i64 ((c : Int) * 4 + dx), .int .i64 ((r : Int) * 4 + dy), .bool true])) ∨ (NoPlace S ∧ e = .returned (.tuple #[.int .i64 0, .int .i64 0, .bool false]))) ∧ Below w.heap.size w w'
theorem pfinds_val {S : ByteArray} {a b : Int} {o : Bool} {w w' : World} {e : Ending} (h : pfromV S a b o) (hf : PFinds S w e w') : e = .returned (.tuple #[.int .i64 a, .int .i64 b, .bool o]) ∧ Below w.heap.size w w' := by
  obtain ⟨hf, hb⟩ := hf
  refine ⟨?_, hb⟩
  rcases h with ⟨c, r, dx, dy, hp, rfl, rfl, rfl⟩ | ⟨hn, rfl, rfl, rfl⟩
  · rcases hf with ⟨c', r', dx', dy', hp', he⟩ | ⟨hn, -⟩
    · obtain ⟨rfl, rfl, rfl, rfl⟩ := place_inj hp hp'
      exact he
    · exact absurd hp (hn c r dx dy)
  · rcases hf with ⟨c', r', dx', dy', hp', -⟩ | ⟨-, he⟩
    · exact absurd hp' (hn c' r' dx' dy')
    · exact he
theorem pfrom_ex (S : ByteArray) : ∃ a b o, pfromV S a b o := by
  by_cases h : ∃ c r dx dy, IsPlace S c r dx dy
  · obtain ⟨c, r, dx, dy, h⟩ := h
    exact ⟨_, _, _, .inl ⟨c, r, dx, dy, h, rfl, rfl, rfl⟩⟩
  · exact ⟨_, _, _, .inr ⟨fun c r dx dy hp => h ⟨c, r, dx, dy, hp⟩, rfl, rfl, rfl⟩⟩

set_option maxHeartbeats 1000000 in
theorem spfrom_finds (S : ByteArray) (w : World) (hmax : S.size ≤ 1048576) : Calls Try.prog 15 #[.string S] w (PFinds S w) := by
  obtain ⟨n, hn⟩ : ∃ n, S.size = n := ⟨_, rfl⟩
  rw [hn] at hmax
  by_cases h4 : n < 4
  · have HNo := Lib.hid (show NoPlace S from fun c r dx dy h => by have := place_sz h; omega)
    have e1 : (n : Int) < 4 := by omega
    go_enter Try.func15, Try.ntmps15
    go_wp2
    go_ret3
    exact ⟨.inr ⟨HNo.out, rfl⟩, Below.refl _ _⟩
  · have e1 : ¬ (n : Int) < 4 := by omega
    have e2 : ((n : Int) - 2).toNat = n - 2 := by omega
    obtain ⟨T, hT⟩ : ∃ T, T = S.extract 0 (n - 2) := ⟨_, rfl⟩
    have HT := Lib.hid hT
    have HP := Lib.hid (show ∀ c r dx dy, IsPlace S c r dx dy → IsName T c r from fun c r dx dy h => by have := place_pre h; rw [hn, ← hT] at this; exact this)
    clear hT
    rcases name_or T with ⟨c, r, hN⟩ | hN
    · have HF := Lib.hid (fun wx => sfrom_any T _ _ _ wx (.inl ⟨c, r, hN, rfl, rfl, rfl⟩))
      have hc := hN.1
      have hr := hN.2.1
      have HC := Lib.hid (show ∀ c' r' dx dy, IsPlace S c' r' dx dy → c' = c ∧ r' = r from fun c' r' dx dy h => by
        have h1 := HP.out _ _ _ _ h
        exact name_inj h1.1 h1.2.1 hc hr (h1.2.2.symm.trans hN.2.2))
      have HN := Lib.hid (fun dx dy X Y wx hdx hdy hX hY => pname_any c r dx dy X Y wx hc hr hdx hdy hX hY)
      rw [HT.out] at HF
      clear HP HT hN
      go_enter Try.func15, Try.ntmps15
      go_wp2_with fail
      with_reducible refine (HF.out _).mono ?_
      rintro e w1 ⟨rfl, hb⟩
      have HB := Lib.hid hb
      clear hb
      go_wp2
      go_loopw [8] (fun i wr => ∃ dy : Nat, dy ≤ 4 ∧ i = .int .i64 dy ∧ (∀ c' r' dx' dy', dy' < dy → ¬ IsPlace S c' r' dx' dy') ∧ Below w.heap.size w wr) (fun i _ => 4 - (intOf i).toNat)
      case atStart => exact ⟨0, by omega, rfl, fun _ _ _ _ h => by omega, HB.out⟩
      case round =>
        obtain ⟨dy, hdy, rfl, hno, hb⟩ := hrel
        have HNo := Lib.hid hno
        have HB1 := Lib.hid hb
        clear hno hb
        by_cases hlt : dy < 4
        · have h1 : (dy : Int) < 4 := by omega
          go_wp2
          obtain ⟨wo, rfl⟩ : ∃ wo : World, wo = wr := ⟨_, rfl⟩
          go_loopw [9] (fun i wr => ∃ dx : Nat, dx ≤ 4 ∧ i = .int .i64 dx ∧ (∀ c' r' dx', dx' < dx → ¬ IsPlace S c' r' dx' dy) ∧ Below w.heap.size w wr) (fun i _ => 4 - (intOf i).toNat)
          case atStart => exact ⟨0, by omega, rfl, fun _ _ _ h => by omega, HB1.out⟩
          case round =>
            obtain ⟨dx, hdx, rfl, hno, hb⟩ := hrel
            have HNo2 := Lib.hid hno
            have HB2 := Lib.hid hb
            clear hno hb
            by_cases hlt2 : dx < 4
            · have h2 : (dx : Int) < 4 := by omega
              by_cases he : strOfNums (placeL c r dx dy) = S
              · have x1 : ((strOfNums (placeL c r dx dy)).toList == S.toList) = true := by rw [he]; simp
                have HE := Lib.hid he
                clear he
                go_wp2_with fail
                with_reducible refine (HN.out dx dy _ _ _ hlt2 hlt rfl rfl).mono ?_
                rintro e w' ⟨rfl, hb⟩
                have HB3 := Lib.hid (HB2.out.trans (hb.mono HB2.out.size))
                clear hb
                go_wp2
                go_ret3
                exact ⟨.inl ⟨c, r, dx, dy, ⟨hc, hr, hlt2, hlt, HE.out.symm⟩, rfl⟩, HB3.out⟩
              · have x1 : ((strOfNums (placeL c r dx dy)).toList == S.toList) = false := by simp only [beq_eq_false_iff_ne, ne_eq]; exact fun h => he (list_inj h)
                have HE := Lib.hid he
                clear he
                go_wp2_with fail
                with_reducible refine (HN.out dx dy _ _ _ hlt2 hlt rfl rfl).mono ?_
                rintro e w' ⟨rfl, hb⟩
                have HB3 := Lib.hid (HB2.out.trans (hb.mono HB2.out.size))
                clear hb
                go_wp2
                go_roundw
                case rel =>
                  refine ⟨dx + 1, by omega, by go_num, fun c' r' dx' h hn => ?_, HB3.out⟩
                  by_cases ec : dx' = dx
                  · subst ec
                    obtain ⟨rfl, rfl⟩ := HC.out _ _ _ _ hn
                    exact HE.out hn.2.2.2.2.symm
                  · exact HNo2.out c' r' dx' (by omega) hn
                case measure => simp [intOf]; omega
            · have h2 : ¬ (dx : Int) < 4 := by omega
              have HNo3 := Lib.hid (show ∀ c' r' dx', ¬ IsPlace S c' r' dx' dy from fun c' r' dx' hn => HNo2.out c' r' dx' (by have := hn.2.2.1; omega) hn)
              go_wp2
              go_roundw
              case rel =>
                refine ⟨dy + 1, by omega, by go_num, fun c' r' dx' dy' h hn => ?_, HB2.out⟩
                by_cases er : dy' = dy
                · subst er; exact HNo3.out c' r' dx' hn
                · exact HNo.out c' r' dx' dy' (by omega) hn
              case measure => simp [intOf]; omega
        · have h1 : ¬ (dy : Int) < 4 := by omega
          have HNo3 := Lib.hid (show NoPlace S from fun c' r' dx' dy' hn => HNo.out c' r' dx' dy' (by have := hn.2.2.2.1; omega) hn)
          go_wp2
          go_ret3
          exact ⟨.inr ⟨HNo3.out, rfl⟩, HB1.out⟩
    · have HF := Lib.hid (fun wx => sfrom_any T _ _ _ wx (.inr ⟨hN, rfl, rfl, rfl⟩))
      have HNo := Lib.hid (show NoPlace S from fun c r dx dy h => hN c r (HP.out _ _ _ _ h))
      rw [HT.out] at HF
      clear HP HT hN
      go_enter Try.func15, Try.ntmps15
      go_wp2_with fail
      with_reducible refine (HF.out _).mono ?_
      rintro e w1 ⟨rfl, hb⟩
      have HB := Lib.hid hb
      clear hb
      go_wp2
      refine wp_loop_rounds 1 ?_
      rw [rounds_succ]
      go_wp2
      go_ret3
      exact ⟨.inr ⟨HNo.out, rfl⟩, HB.out⟩
theorem spfrom_any (S : ByteArray) (a b : Int) (o : Bool) (w : World) (hmax : S.size ≤ 1048576) (h : pfromV S a b o) :
    Calls Try.prog 15 #[.string S] w fun e w' => e = .returned (.tuple #[.int .i64 a, .int .i64 b, .bool o]) ∧ Below w.heap.size w w' :=
  (spfrom_finds S w hmax).mono fun _ _ hf => pfinds_val h hf

end Go.Proofs.Ytlmigoplffdpiaa
