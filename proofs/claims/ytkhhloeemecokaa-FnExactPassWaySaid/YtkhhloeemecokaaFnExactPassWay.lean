/- The law FnExactPassWay returns true for every input, and its arguments read afterwards as before. Conditions: none. -/
import Derived.Test.YtkhhloeemecokaaLawPWay
import Derived.WalkKit
import Derived.ProofKit
import Derived.OpenShut
import Derived.ShutString
import Derived.ChangeOld
import Derived.Below
import Derived.Deep.Matrix
namespace Go.Proofs.Ytkhhloeemecokaa.fnExactPassWay
open Go.ChangeShapes Go.WideShapes Go.ChangeAt Go.RowKit
open Go.ChangeMaps (open_string shut_string)
set_option linter.unusedVariables false

theorem own : ownKnob Try.prog.godebug = none := by kernel_rfl
theorem laidOut : laidOutB Try.prog = true := by kernel_rfl

set_option maxRecDepth 100000 in
theorem lifted (os : Os) (started : os.Started) (H : Type) (enc : TypeId × Value → H) :
    ReturnsInHanded {} Try.checked os 5 .any (Rows.fnExactPassWaySpec.pre6 enc Try.prog Try.f5 Rows.fnExactPassWayRow.domain false) (Rows.fnExactPassWaySpec.post enc Try.prog Try.f5 false true false false) := by
  refine returnsInHanded_of_change (C := Try.checked) own started (by kernel_rfl) Try.func5
    (ChangeSpec.witness6 (enc := enc) (C := Try.checked) false ⟨#[], #[.slice none 0 0, .int .i64 0, .int .i64 0], []⟩ 8 (by kernel_rfl) (by kernel_rfl) (by kernel_rfl) (by kernel_rfl)) ?_
  intro W base args ds gs before hval0 hW hcnd _
  have hval : ∀ (j : Nat) t v, Try.f5.params[j]? = some t → args[j]? = some v → Value.okWide Try.prog W .any base t v := hval0
  have hW' := hW
  obtain ⟨p, q, hA0, hV, rfl, hfz, hnd⟩ := hW
  have hA : DataW.TrodAll enc Try.prog W 0 (fun _ => true) true Try.f5.params.toList args.toList ds p := hA0
  rw [Try.params5] at hA hval
  obtain ⟨v0, vs0, d0, ds0, p0, q0, hargs, rfl, rfl, h0, r0⟩ := trodAll_cons hA
  obtain ⟨v1, vs1, d1, ds1, p1, q1, rfl, rfl, rfl, h1, r1⟩ := trodAll_cons r0
  obtain ⟨v2, vs2, d2, ds2, p2, q2, rfl, rfl, rfl, h2, r2⟩ := trodAll_cons r1
  obtain ⟨rfl, rfl, rfl⟩ := trodAll_nil r2
  obtain rfl : args = #[v0, v1, v2] := by cases args; simp_all
  obtain ⟨rfl, rfl⟩ := trodVars_none hV
  obtain ⟨a0, len0, cap0, rfl⟩ := okWide_slice Try.underlying23 (hval 0 23 v0 rfl rfl)
  have k0 := h0
  have lt0 : ∀ x ∈ p0, x.block < W.heap.size := by obtain ⟨m, hm⟩ := k0; exact DataW.trod_lt m _ _ _ hm
  obtain ⟨z0, w0, b0, f0⟩ : ∃ zs : List (List Int), MRow W (.slice a0 len0 cap0) zs ∧ zs.length ≤ maxLen ∧ ∀ z ∈ zs, z.length ≤ maxLen := by
    obtain ⟨fuel, hf⟩ := h0
    rcases Go.Deep.open_int_rows Try.underlying23 Try.underlying28 Try.underlying3 (by kernel_rfl) (by kernel_rfl) hf with ⟨hcs, _⟩ | ⟨x, l, c, Ad, Ln, Cp, Z, hcs, _, hl, hm, _, hrows⟩
    · simp [Value.cells] at hcs
      obtain ⟨rfl, rfl, rfl⟩ := hcs
      exact ⟨[], ⟨none, 0, rfl, .inl rfl⟩, by simp, by simp⟩
    · simp [Value.cells] at hcs
      obtain ⟨rfl, rfl, rfl⟩ := hcs
      refine ⟨(List.range len0).map (fun r => (Z r).take (Ln r)), ⟨some x, cap0, by simp, ?_⟩, by simp; omega, ?_⟩
      · by_cases h0 : len0 = 0
        · left
          rw [h0]
          rfl
        · right
          obtain ⟨b, off, spot⟩ := x
          have hc := (hrows 0 (by omega)).1
          have hspot : spot = none := by simpa [Addr.add] using World.cell?_spot hc
          subst hspot
          refine ⟨b, off, rfl, fun i hi => ?_⟩
          rw [List.length_map, List.length_range] at hi
          obtain ⟨r1, r2, r3, r4, r5, r6, r7⟩ := hrows i (by omega)
          rw [add_at] at r1
          refine ⟨_, r1, ?_⟩
          rw [show ((List.range len0).map (fun r => (Z r).take (Ln r))).getD i [] = (Z i).take (Ln i) by simp [hi]]
          have hlen : ((Z i).take (Ln i)).length = Ln i := by rw [List.length_take]; omega
          refine ⟨Ad i, Cp i, by rw [hlen], ?_⟩
          by_cases h1 : Ln i = 0
          · left
            rw [h1, List.take_zero]
          · right
            cases hA : Ad i with
            | none => have := r6 hA; omega
            | some y =>
              obtain ⟨b', off', spot'⟩ := y
              have hc' := (r7 _ hA).2 0 (by omega)
              have hspot' : spot' = none := by simpa [Addr.add] using World.cell?_spot hc'
              subst hspot'
              refine ⟨b', off', rfl, fun j hj => ?_⟩
              rw [hlen] at hj
              have := (r7 _ hA).2 j (by omega)
              rw [add_at] at this
              rw [this]
              simp [hj]
      · intro z hz
        obtain ⟨r, hr, rfl⟩ := List.mem_map.1 hz
        have hr' := List.mem_range.1 hr
        obtain ⟨r1, r2, r3, r4, -⟩ := hrows r (by omega)
        rw [List.length_take]
        omega
  obtain ⟨a1, rfl, rfl, rfl, w1⟩ := open_int Try.underlying3 (hval 1 3 v1 rfl rfl) h1
  obtain ⟨a2, rfl, rfl, rfl, w2⟩ := open_int Try.underlying3 (hval 2 3 v2 rfl rfl) h2
  clear hA0 hval0
  refine (fnExactPassWay_walk W _ z0 w0 b0 f0 a1 w1 a2 w2).mono fun e W' ⟨he, bel⟩ => ?_
  subst he
  exact ⟨_, rfl, _, _, _, [], _, [], hW', trodAll_mk1 (shut_bool Try.underlying4 _), (trodAll_cons_mk (Below.trod laidOut (by kernel_rfl) (of_decide_eq_true (by kernel_rfl)) k0 bel lt0) (trodAll_cons_mk (shut_int Try.underlying3 w1) (trodAll_cons_mk (shut_int Try.underlying3 w2) trodAll_mk0))), rfl, bel.frame _, fun h => by cases h⟩

theorem over : Rows.fnExactPassWayRow.holds Try.pinned (OpenSpec.ofChange Rows.fnExactPassWaySpec) :=
  OpenClaim.holds_of_wide 5 Try.f5 rfl rfl rfl rfl rfl rfl rfl ⟨rfl, rfl, rfl, rfl, rfl⟩ rfl rfl rfl rfl rfl (by kernel_rfl) Try.func5 (by kernel_rfl)
    (of_decide_eq_true (by kernel_rfl)) (by unfold Func.isWrapper; first | (rw [if_pos (by decide +kernel)]; kernel_rfl) | (rw [if_neg (by decide +kernel)]; exact ⟨rfl, rfl⟩))
    (fun os started H enc _ => lifted os started H enc)

/-- The given statement. -/
theorem proved : Rows.FnExactPassWaySaid := over
#print axioms proved
end Go.Proofs.Ytkhhloeemecokaa.fnExactPassWay
