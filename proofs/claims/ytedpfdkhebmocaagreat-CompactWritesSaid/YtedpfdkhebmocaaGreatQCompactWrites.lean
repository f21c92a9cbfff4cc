/- Whoever lays words while chunks are evacuated, whoever is picked: each that was told as laid is there at the end. Conditions: none. -/
import Derived.Test.YtedpfdkhebmocaaGreatZCompactWrites6
import Derived.Test.YtedpfdkhebmocaaGreatRows
import Derived.WalkKit
import Derived.ProofKit
import Derived.OpenShut
import Derived.ShutString
import Derived.ChangeOld
import Derived.Below
import Derived.SizedLaws
namespace Go.Proofs.YtedpfdkhebmocaaGreat.compactWrites
open Go.ChangeShapes Go.WideShapes Go.ChangeAt Go.RowKit Go.Fl
set_option linter.unusedVariables false
set_option linter.unusedSimpArgs false

theorem own : ownKnob Tryz.prog.godebug = none := by kernel_rfl
theorem laidOut : laidOutB Tryz.prog = true := by kernel_rfl

theorem walk (a0 : Value) (a1 : Value) (a2 : Value) (w : World) (w0 : SlW w [some .i64] a0) (z0 : ∀ a l c, a0 = .slice a l c → l ≤ 140737488351232) (w1 : SlW w [some .i64] a1) (z1 : ∀ a l c, a1 = .slice a l c → l ≤ 140737488351232) (w2 : SlW w [some .i64] a2) (z2 : ∀ a l c, a2 = .slice a l c → l ≤ 140737488351232) :
    Calls Tryz.prog 8 #[a0, a1, a2] w fun e w' => e = .returned (.bool true) ∧ Below w.heap.size w w' := by
  have o := Opn.nil (w := w)
  obtain ⟨ρ2, σ2, s2, n2, cs2, o2, sl2, hm2, hf2, ex2⟩ := o.slz w2 z2
  obtain ⟨ρ1, σ1, s1, n1, cs1, o1, sl1, hm1, hf1, ex1⟩ := o2.slz w1 z1
  replace sl2 := sl2.mono ex1
  obtain ⟨ρ0, σ0, s0, n0, cs0, o0, sl0, hm0, hf0, ex0⟩ := o1.slz w0 z0
  replace sl2 := sl2.mono ex0
  replace sl1 := sl1.mono ex0
  exact Opn.run e_bd o0 (law_CompactWrites _ s0 n0 cs0 sl0 hm0 hf0 s1 n1 cs1 sl1 hm1 hf1 s2 n2 cs2 sl2 hm2 hf2)

set_option maxRecDepth 100000 in
theorem lifted (os : Os) (started : os.Started) (H : Type) (enc : TypeId × Value → H) :
    ReturnsInHanded {} Tryz.checked os 8 .any (Rows.compactWritesSpec.pre6 enc Tryz.prog Tryz.f8 Rows.compactWritesRow.domain false) (Rows.compactWritesSpec.post enc Tryz.prog Tryz.f8 false true false false) := by
  refine returnsInHanded_of_change_sized (C := Tryz.checked) own started (by kernel_rfl) Tryz.func8
    (ChangeSpec.witness6 (enc := enc) (C := Tryz.checked) false ⟨#[], #[.slice none 0 0, .slice none 0 0, .slice none 0 0], []⟩ 8 (by kernel_rfl) (by kernel_rfl) (by kernel_rfl) (by kernel_rfl)) ?_
  intro W base args ds gs before hval0 hW hcnd hz _
  have hval : ∀ (j : Nat) t v, Tryz.f8.params[j]? = some t → args[j]? = some v → Value.okWide Tryz.prog W .any base t v := hval0
  have hW' := hW
  obtain ⟨p, q, hA0, hV, rfl, hfz, hnd⟩ := hW
  have hA : DataW.TrodAll enc Tryz.prog W 0 (fun _ => true) true Tryz.f8.params.toList args.toList ds p := hA0
  rw [Tryz.params8] at hA hval
  obtain ⟨v0, vs0, d0, ds0, p0, q0, hargs, rfl, rfl, h0, r0⟩ := trodAll_cons hA
  obtain ⟨v1, vs1, d1, ds1, p1, q1, rfl, rfl, rfl, h1, r1⟩ := trodAll_cons r0
  obtain ⟨v2, vs2, d2, ds2, p2, q2, rfl, rfl, rfl, h2, r2⟩ := trodAll_cons r1
  obtain ⟨rfl, rfl, rfl⟩ := trodAll_nil r2
  obtain rfl : args = #[v0, v1, v2] := by cases args; simp_all
  obtain ⟨rfl, rfl⟩ := trodVars_none hV
  have k0 := h0
  have lt0 : ∀ x ∈ p0, x.block < W.heap.size := by obtain ⟨m, hm⟩ := k0; exact DataW.trod_lt m _ _ _ hm
  obtain ⟨fuel0, hf0⟩ := h0
  obtain ⟨b0, len0, cap0, rfl⟩ := okWide_slice Tryz.underlying22 (hval 0 22 v0 rfl rfl)
  have w0 : SlW W [some .i64] (.slice b0 len0 cap0) := by
    rcases trod_sl (d := 8) (ks := [some .i64]) Tryz.underlying22 (by kernel_rfl) (by kernel_rfl) (by decide) hf0 with h | ⟨a, l, c, cs, h, q⟩
    · exact .inl (by simpa [Value.cells] using h)
    · exact .inr ⟨a, l, c, cs, by simpa [Value.cells] using h, q⟩
  have z0 : ∀ a l c, Value.slice b0 len0 cap0 = .slice a l c → l ≤ 140737488351232 := fun a l c e => trod_len (j := 0) Tryz.underlying22 hf0 (by kernel_rfl) rfl hz (by decide +kernel) a l c (by rw [← e]; rfl)
  have k1 := h1
  have lt1 : ∀ x ∈ p1, x.block < W.heap.size := by obtain ⟨m, hm⟩ := k1; exact DataW.trod_lt m _ _ _ hm
  obtain ⟨fuel1, hf1⟩ := h1
  obtain ⟨b1, len1, cap1, rfl⟩ := okWide_slice Tryz.underlying22 (hval 1 22 v1 rfl rfl)
  have w1 : SlW W [some .i64] (.slice b1 len1 cap1) := by
    rcases trod_sl (d := 8) (ks := [some .i64]) Tryz.underlying22 (by kernel_rfl) (by kernel_rfl) (by decide) hf1 with h | ⟨a, l, c, cs, h, q⟩
    · exact .inl (by simpa [Value.cells] using h)
    · exact .inr ⟨a, l, c, cs, by simpa [Value.cells] using h, q⟩
  have z1 : ∀ a l c, Value.slice b1 len1 cap1 = .slice a l c → l ≤ 140737488351232 := fun a l c e => trod_len (j := 1) Tryz.underlying22 hf1 (by kernel_rfl) rfl hz (by decide +kernel) a l c (by rw [← e]; rfl)
  have k2 := h2
  have lt2 : ∀ x ∈ p2, x.block < W.heap.size := by obtain ⟨m, hm⟩ := k2; exact DataW.trod_lt m _ _ _ hm
  obtain ⟨fuel2, hf2⟩ := h2
  obtain ⟨b2, len2, cap2, rfl⟩ := okWide_slice Tryz.underlying22 (hval 2 22 v2 rfl rfl)
  have w2 : SlW W [some .i64] (.slice b2 len2 cap2) := by
    rcases trod_sl (d := 8) (ks := [some .i64]) Tryz.underlying22 (by kernel_rfl) (by kernel_rfl) (by decide) hf2 with h | ⟨a, l, c, cs, h, q⟩
    · exact .inl (by simpa [Value.cells] using h)
    · exact .inr ⟨a, l, c, cs, by simpa [Value.cells] using h, q⟩
  have z2 : ∀ a l c, Value.slice b2 len2 cap2 = .slice a l c → l ≤ 140737488351232 := fun a l c e => trod_len (j := 2) Tryz.underlying22 hf2 (by kernel_rfl) rfl hz (by decide +kernel) a l c (by rw [← e]; rfl)
  clear hA0 hval0
  refine (walk _ _ _ W w0 z0 w1 z1 w2 z2).mono fun e W' ⟨he, bel⟩ => ?_
  subst he
  exact ⟨_, rfl, _, _, _, [], _, [], hW', trodAll_mk1 (shut_bool Tryz.underlying4 _), (trodAll_cons_mk (Below.trod laidOut (by kernel_rfl) (of_decide_eq_true (by kernel_rfl)) k0 bel lt0) (trodAll_cons_mk (Below.trod laidOut (by kernel_rfl) (of_decide_eq_true (by kernel_rfl)) k1 bel lt1) (trodAll_cons_mk (Below.trod laidOut (by kernel_rfl) (of_decide_eq_true (by kernel_rfl)) k2 bel lt2) trodAll_mk0))), rfl, bel.frame _, fun h => by cases h⟩

theorem mayE : Tryz.pinned.checked.prog.mayEnter = true := by kernel_rfl
theorem lifF : (Rows.compactWritesRow.lifted == Tryz.pinned.checked.prog.liftsFinal) = true := by kernel_rfl
theorem facts : joinedFacts Tryz.pinned.checked.prog 8 Tryz.f8 Rows.compactWritesSpec Rows.compactWritesRow = true := by
  unfold joinedFacts; rw [mayE, lifF]; kernel_rfl
theorem over : Rows.compactWritesRow.holds Tryz.pinned (OpenSpec.ofChange Rows.compactWritesSpec) :=
  OpenClaim.holds_of_wide 8 Tryz.f8 rfl rfl rfl rfl rfl rfl rfl ⟨rfl, rfl, rfl, rfl, rfl⟩ rfl rfl rfl rfl rfl (by kernel_rfl) Tryz.func8 facts
    (of_decide_eq_true (by kernel_rfl)) (by unfold Func.isWrapper; first | (rw [if_pos (by decide +kernel)]; kernel_rfl) | (rw [if_neg (by decide +kernel)]; exact ⟨rfl, rfl⟩))
    (fun os started H enc _ => lifted os started H enc)

theorem proved : Rows.CompactWritesSaid := over
#print axioms proved
end Go.Proofs.YtedpfdkhebmocaaGreat.compactWrites
