/- However many threads act at the same time, whoever is picked: what is read of a word is what was laid in it by the act that took effect last ahead of that. Conditions: none. -/
import Derived.Test.YtbmcbcoaeclfbaaZActMany5
import Derived.Test.YtbmcbcoaeclfbaaRows
import Derived.WalkKit
import Derived.ProofKit
import Derived.OpenShut
import Derived.ShutString
import Derived.ChangeOld
import Derived.Below
import Derived.SizedLaws
namespace Go.Proofs.Ytbmcbcoaeclfbaa.actMany
open Go.ChangeShapes Go.WideShapes Go.ChangeAt Go.RowKit Go.Fl
set_option linter.unusedVariables false
set_option linter.unusedSimpArgs false

theorem own : ownKnob Try.prog.godebug = none := by kernel_rfl
theorem laidOut : laidOutB Try.prog = true := by kernel_rfl

theorem walk (a0 : Value) (a1 : Value) (w : World) (w0 : SlW w [some .i64, some .i64, some .u64, some .i64, some .i64, some .i64, none] a0) (z0 : ∀ a l c, a0 = .slice a l c → l ≤ 140737488351232) (w1 : SlW w [some .i64] a1) (z1 : ∀ a l c, a1 = .slice a l c → l ≤ 140737488351232) :
    Calls Try.prog 7 #[a0, a1] w fun e w' => e = .returned (.bool true) ∧ Below w.heap.size w w' := by
  have o := Opn.nil (w := w)
  obtain ⟨ρ1, σ1, s1, n1, cs1, o1, sl1, hm1, hf1, ex1⟩ := o.slz w1 z1
  obtain ⟨ρ0, σ0, s0, n0, cs0, o0, sl0, hm0, hf0, ex0⟩ := o1.slz w0 z0
  replace sl1 := sl1.mono ex0
  exact Opn.run e_a1 o0 (law_ActMany _ s0 n0 cs0 sl0 hm0 hf0 s1 n1 cs1 sl1 hm1 hf1)

set_option maxRecDepth 100000 in
theorem lifted (os : Os) (started : os.Started) (H : Type) (enc : TypeId × Value → H) :
    ReturnsInHanded {} Try.checked os 7 .any (Rows.actManySpec.pre6 enc Try.prog Try.f7 Rows.actManyRow.domain false) (Rows.actManySpec.post enc Try.prog Try.f7 false true false false) := by
  refine returnsInHanded_of_change_sized (C := Try.checked) own started (by kernel_rfl) Try.func7
    (ChangeSpec.witness6 (enc := enc) (C := Try.checked) false ⟨#[], #[.slice none 0 0, .slice none 0 0], []⟩ 8 (by kernel_rfl) (by kernel_rfl) (by kernel_rfl) (by kernel_rfl)) ?_
  intro W base args ds gs before hval0 hW hcnd hz _
  have hval : ∀ (j : Nat) t v, Try.f7.params[j]? = some t → args[j]? = some v → Value.okWide Try.prog W .any base t v := hval0
  have hW' := hW
  obtain ⟨p, q, hA0, hV, rfl, hfz, hnd⟩ := hW
  have hA : DataW.TrodAll enc Try.prog W 0 (fun _ => true) true Try.f7.params.toList args.toList ds p := hA0
  rw [Try.params7] at hA hval
  obtain ⟨v0, vs0, d0, ds0, p0, q0, hargs, rfl, rfl, h0, r0⟩ := trodAll_cons hA
  obtain ⟨v1, vs1, d1, ds1, p1, q1, rfl, rfl, rfl, h1, r1⟩ := trodAll_cons r0
  obtain ⟨rfl, rfl, rfl⟩ := trodAll_nil r1
  obtain rfl : args = #[v0, v1] := by cases args; simp_all
  obtain ⟨rfl, rfl⟩ := trodVars_none hV
  have k0 := h0
  have lt0 : ∀ x ∈ p0, x.block < W.heap.size := by obtain ⟨m, hm⟩ := k0; exact DataW.trod_lt m _ _ _ hm
  obtain ⟨fuel0, hf0⟩ := h0
  obtain ⟨b0, len0, cap0, rfl⟩ := okWide_slice Try.underlying22 (hval 0 22 v0 rfl rfl)
  have w0 : SlW W [some .i64, some .i64, some .u64, some .i64, some .i64, some .i64, none] (.slice b0 len0 cap0) := by
    rcases trod_sl (d := 8) (ks := [some .i64, some .i64, some .u64, some .i64, some .i64, some .i64, none]) Try.underlying22 (by kernel_rfl) (by kernel_rfl) (by decide) hf0 with h | ⟨a, l, c, cs, h, q⟩
    · exact .inl (by simpa [Value.cells] using h)
    · exact .inr ⟨a, l, c, cs, by simpa [Value.cells] using h, q⟩
  have z0 : ∀ a l c, Value.slice b0 len0 cap0 = .slice a l c → l ≤ 140737488351232 := fun a l c e => trod_len (j := 0) Try.underlying22 hf0 (by kernel_rfl) rfl hz (by decide +kernel) a l c (by rw [← e]; rfl)
  have k1 := h1
  have lt1 : ∀ x ∈ p1, x.block < W.heap.size := by obtain ⟨m, hm⟩ := k1; exact DataW.trod_lt m _ _ _ hm
  obtain ⟨fuel1, hf1⟩ := h1
  obtain ⟨b1, len1, cap1, rfl⟩ := okWide_slice Try.underlying43 (hval 1 43 v1 rfl rfl)
  have w1 : SlW W [some .i64] (.slice b1 len1 cap1) := by
    rcases trod_sl (d := 8) (ks := [some .i64]) Try.underlying43 (by kernel_rfl) (by kernel_rfl) (by decide) hf1 with h | ⟨a, l, c, cs, h, q⟩
    · exact .inl (by simpa [Value.cells] using h)
    · exact .inr ⟨a, l, c, cs, by simpa [Value.cells] using h, q⟩
  have z1 : ∀ a l c, Value.slice b1 len1 cap1 = .slice a l c → l ≤ 140737488351232 := fun a l c e => trod_len (j := 1) Try.underlying43 hf1 (by kernel_rfl) rfl hz (by decide +kernel) a l c (by rw [← e]; rfl)
  clear hA0 hval0
  refine (walk _ _ W w0 z0 w1 z1).mono fun e W' ⟨he, bel⟩ => ?_
  subst he
  exact ⟨_, rfl, _, _, _, [], _, [], hW', trodAll_mk1 (shut_bool Try.underlying4 _), (trodAll_cons_mk (Below.trod laidOut (by kernel_rfl) (of_decide_eq_true (by kernel_rfl)) k0 bel lt0) (trodAll_cons_mk (Below.trod laidOut (by kernel_rfl) (of_decide_eq_true (by kernel_rfl)) k1 bel lt1) trodAll_mk0)), rfl, bel.frame _, fun h => by cases h⟩

theorem mayE : Try.pinned.checked.prog.mayEnter = true := by kernel_rfl
theorem lifF : (Rows.actManyRow.lifted == Try.pinned.checked.prog.liftsFinal) = true := by kernel_rfl
theorem facts : joinedFacts Try.pinned.checked.prog 7 Try.f7 Rows.actManySpec Rows.actManyRow = true := by
  unfold joinedFacts; rw [mayE, lifF]; kernel_rfl
theorem over : Rows.actManyRow.holds Try.pinned (OpenSpec.ofChange Rows.actManySpec) :=
  OpenClaim.holds_of_wide 7 Try.f7 rfl rfl rfl rfl rfl rfl rfl ⟨rfl, rfl, rfl, rfl, rfl⟩ rfl rfl rfl rfl rfl (by kernel_rfl) Try.func7 facts
    (of_decide_eq_true (by kernel_rfl)) (by unfold Func.isWrapper; first | (rw [if_pos (by decide +kernel)]; kernel_rfl) | (rw [if_neg (by decide +kernel)]; exact ⟨rfl, rfl⟩))
    (fun os started H enc _ => lifted os started H enc)

theorem proved : Rows.ActManySaid := over
#print axioms proved
end Go.Proofs.Ytbmcbcoaeclfbaa.actMany
