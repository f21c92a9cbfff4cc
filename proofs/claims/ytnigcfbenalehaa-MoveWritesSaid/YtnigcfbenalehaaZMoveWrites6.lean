/- What the claim leans on, part 6: own readings of the program's functions, what they come to, laws of them. No condition. -/
import Derived.Test.YtnigcfbenalehaaZMoveWrites5
namespace Go.Fl
open Go
set_option linter.unusedVariables false
set_option linter.unusedSimpArgs false
variable {N : Nm} {A B : Ar} {σ : Mem} {K : Value → Mem → Prop} {C : Cf} {who : Int}
theorem law_MoveWrites (σ : Mem) (a0 : Int) (w0 : (Lit.int .i64 a0).wf = true) (s : Value) (len : Nat) (cs : List Value) (sl : Sl σ 1 len cs s) (hm : len ≤ 140737488351232) (hf : FlatL (List.replicate len [some .i64]).flatten cs) (s2 : Value) (len2 : Nat) (cs2 : List Value) (sl2 : Sl σ 1 len2 cs2 s2) (hm2 : len2 ≤ 140737488351232) (hf2 : FlatL (List.replicate len2 [some .i64]).flatten cs2) :
  s_a6 [.int .i64 a0, s, s2] (fun v _ => v = .bool true) σ := by
 obtain ⟨g, hgA, _⟩ := sl.argI hf
 obtain ⟨pk, hpA, _⟩ := sl2.argI hf2
 have hC : (cA 4 8 4 20).ok := cA_ok (by omega) (by omega) (by omega) (by omega)
 have gE : ∀ {k : Nat} {x y z w : Int} {u : Bool}, gStore 5 [.pointer (some ⟨k, 0, some 0⟩), .agg #[.int .i64 x, .int .i64 y, .int .i64 z, .int .i64 w, .bool u]] [.int .i64 0, .int .i64 0, .int .i64 0, .int .i64 0, .bool false] = some [.int .i64 x, .int .i64 y, .int .i64 z, .int .i64 w, .bool u] := fun {_ _ _ _ _ _} => rfl
 have gL3 : ∀ {x y : Int} {u : Bool}, gStore 3 [.pointer (some ⟨14, 0, some 0⟩), .agg #[.int .i64 x, .int .i64 y, .bool u]] [.int .i64 0, .int .i64 0, .bool false] = some [.int .i64 x, .int .i64 y, .bool u] := fun {_ _ _} => rfl
 have s5 : ∀ x y z u w : Value, sub [x, y, z, u, w] 0 5 true = some (.agg #[x, y, z, u, w]) := fun _ _ _ _ _ => rfl
 have g2 : ∀ {k : Nat} {x y : Int}, gStore 2 [.pointer (some ⟨k, 0, some 0⟩), .agg #[.int .i64 x, .int .i64 y]] [.int .i64 0, .int .i64 0] = some [.int .i64 x, .int .i64 y] := fun {_ _ _} => rfl
 have g4 : ∀ {k : Nat} {x y z w : Int}, gStore 4 [.pointer (some ⟨k, 0, some 0⟩), .agg #[.int .i64 x, .int .i64 y, .int .i64 z, .int .i64 w]] [.int .i64 0, .int .i64 0, .int .i64 0, .int .i64 0] = some [.int .i64 x, .int .i64 y, .int .i64 z, .int .i64 w] := fun {_ _ _ _ _} => rfl
 have gU : ∀ {k : Nat} {x y z w : Int}, gStore 4 [.pointer (some ⟨k, 0, some 0⟩), .agg #[.int .i64 x, .int .u64 y, .int .i64 z, .int .i64 w]] [.int .i64 0, .int .u64 0, .int .i64 0, .int .i64 0] = some [.int .i64 x, .int .u64 y, .int .i64 z, .int .i64 w] := fun {_ _ _ _ _} => rfl
 have b4 : ∀ (x y z w : Int) (K : Value → Prop), xF (fBuild [(0, 1), (1, 1), (2, 1), (3, 1)] [.int .i64 0, .int .i64 0, .int .i64 0, .int .i64 0] [0, 1, 2, 3]) [.int .i64 x, .int .i64 y, .int .i64 z, .int .i64 w] K = K (.agg #[.int .i64 x, .int .i64 y, .int .i64 z, .int .i64 w]) := fun _ _ _ _ K => nr rfl
 have f1 : ∀ (x y z w : Value) (K : Value → Prop), xF (fFldV 1 1 false) [.agg #[x, y, z, w]] K = K y := fun _ _ _ _ K => nr rfl
 have p0 : ∀ {k : Nat} {x a b c d : Int}, gStore 1 [.pointer (some ⟨k, 0, some 0⟩), .int .i64 x] [.int .i64 a, .int .i64 b, .int .i64 c, .int .i64 d] = some [.int .i64 x, .int .i64 b, .int .i64 c, .int .i64 d] := fun {_ _ _ _ _ _} => rfl
 have p3 : ∀ {k : Nat} {x a b c d : Int}, gStore 1 [.pointer (some ⟨k, 3, some 0⟩), .int .i64 x] [.int .i64 a, .int .i64 b, .int .i64 c, .int .i64 d] = some [.int .i64 a, .int .i64 b, .int .i64 c, .int .i64 x] := fun {_ _ _ _ _ _} => rfl
 have f3 : ∀ (x y z w : Value) (K : Value → Prop), xF (fFldV 3 1 false) [.agg #[x, y, z, w]] K = K w := fun _ _ _ _ K => nr rfl
 have b4' : ∀ (x y : Int) (K : Value → Prop), xF (fBuild [(0, 1), (1, 1), (2, 1), (3, 1), (4, 1)] [.int .i64 0, .int .u64 0, .int .i64 0, .int .i64 0, .int .i64 0] [0, 1, 2, 3]) [.int .i64 2, .int .u64 65536, .int .i64 x, .int .i64 y] K = K (.agg #[.int .i64 2, .int .u64 65536, .int .i64 x, .int .i64 y, .int .i64 0]) := fun _ _ K => nr rfl
 have f0 : ∀ (x y z w : Value) (K : Value → Prop), xF (fFldV 0 1 false) [.agg #[x, y, z, w]] K = K x := fun _ _ _ _ K => nr rfl
 have f2 : ∀ (x y z w : Value) (K : Value → Prop), xF (fFldV 2 1 false) [.agg #[x, y, z, w]] K = K z := fun _ _ _ _ K => nr rfl
 simp only [s_a6, w_a6, ruS, ruL, ruE, Nat.reduceAdd, reduceIte, Int.reduceLT, Int.reduceLE, Int.reduceEq, Int.reduceNeg, Int.reduceAdd, Int.reduceSub, Nat.reduceLeDiff, Nat.reduceLT]
 refine c_begun hC argI_nil fun N A0 τ hN hA0 hE hfr hB0 hBL => ?_
 have hCC : (cA 4 8 4 20).C = 4 := rfl
 have hCR : (cA 4 8 4 20).R = 3 := rfl
 have hz : 1 ≤ 1 + a0 % 16 ∧ 1 + a0 % 16 ≤ 16 := by omega
 simp only [xExt50, xExt51, xExt52, xExt53, xExt54, gStoreE, gE, c_awake11, w_a6_j1, w_a6_j1b, s5, ruS, ruL, ruE, Nat.reduceAdd, reduceIte, Int.reduceLT, Int.reduceLE, Int.reduceEq, Int.reduceNeg, Int.reduceAdd, Int.reduceSub, Nat.reduceLeDiff, Nat.reduceLT]
 generalize 1 + a0 % 16 = z at *
 generalize hCe : cA 4 8 4 20 = C at *
 have hcl : 0 ≤ classOf z := by unfold classOf; (repeat' split) <;> omega
 have g0 : Geo C z 0 := ⟨hC, hcl, by omega, hCR⟩
 have ge := g0.eq
 have el := ge.l1; have el2 := ge.l2; have eb : C.base 1 = C.base 0 + C.W := ge.nb; have eb0 := ge.b0; have eW := ge.Wb; have eT := ge.Tb; have eS := ge.Sb; have eC := ge.Cb
 have hln := len_bd hC
 have hB := hB0.zero
 obtain ⟨T, hTe⟩ : ∃ T, T = A0.w := ⟨_, rfl⟩
 have hT : TbM C z 0 T := by rw [hTe]; exact hB.tb g0
 have hM : MI False C z 0 T (fun _ => 0) 0 1 false (3 * z + 40 + 0) (Mv.new (C.base 0) 2 z 0 1 false) A0.w := by rw [hTe]; exact hB.mi (P := False) g0 (fun q => q.elim) ⟨Int.le_refl 0, by decide⟩
 have hn0 := hB.n
 have hok0 := hB.ok
 have hzz : ((z.toNat : Nat) : Int) = z := by omega
 have hz0 : z ≠ 0 := by omega
 refine mob_new hA0 fun p τ1 hp hob x1 => ?_
 have hpr0 : Pr N σ p [p] (Mv.new (C.base 0) 2 z 0 1 false) none τ1 := Pr.first (hE.none hp) hob (hE.trans x1)
 have hA1 := hA0.ext x1
 refine hMakeS_i (by omega) (by omega) (by decide) fun b τ2 hb gb x2 => ?_
 rw [cells_repl] at gb
 have hbud0 : bud C (Mv.new (C.base 0) 2 z 0 1 false) A0.w = 3 := by
  unfold bud; rw [if_neg (fun y => by have q : (4 : Int) ≤ 0 := y.1.1; omega)]; rfl
 have hW0 : Ws N C σ z T g len p b (3 * z + 40 + 0) 0 false [p] (Mv.new (C.base 0) 2 z 0 1 false) A0 none (fun _ => 0) τ2 2000000 := by
  refine ⟨hn0, hok0, hA1.ext x2, ⟨⟨hpr0.mo.ext x2, fun x hx => ⟨?_, (hpr0.ma x hx).2⟩, fun _ _ _ e => (by cases e), hpr0.ext.trans x2⟩, gb, fun q => (hpr0.ma b q).1 hb, fun _ _ _ e => (by cases e), hA1.new hb, hpr0.ext.none hb⟩, by decide, 0, 1, false, hM.sm, fun _ _ _ e => (by cases e), .inr ⟨rfl, hM, by rw [hbud0]; omega⟩⟩
  cases e : τ1.get x with
  | none => exact absurd e (hpr0.ma x hx).1
  | some c => rw [x2 _ _ e]; simp
 have hlk : ∀ (τ : Mem) (L : Int → Int) {at' : Int}, 0 ≤ at' → 0 ≤ at'.tmod z ∧ at'.tmod z < z := fun τ L at' h0 => ⟨Int.tmod_nonneg _ h0, Int.tmod_lt_of_pos _ (by omega)⟩
 -- the words are read at the end
 have part5 : ∀ q at' O m A L τ, Ws N C σ z T g len p b q at' true O m A none L τ 3000000 → w_a6_j5 (fun v _ => v = .bool true) [.int .u64 65536, .int .i64 (C.base 0), .pointer (some ⟨p, 0, none⟩), .slice (some ⟨b, 0, none⟩) z.toNat 1, .bool false] [N.el C 0, [.int .i64 2, .int .i64 z, .int .i64 0, .int .i64 1, .bool false]] τ := by
  intro q at' O m A L τ hW
  obtain ⟨V, st, loc, hsm, _, ⟨_, hst, hD⟩ | ⟨h1, _⟩⟩ := hW.s
  ·subst hst
   obtain ⟨s1, s2, s3⟩ := hD.where g0
   have hn := hW.n
   simp only [w_a6_j5, w_a6_j5b, ruS, ruL, ruE, Nat.reduceAdd, reduceIte, Int.reduceLT, Int.reduceLE, Int.reduceEq, Int.reduceNeg, Int.reduceAdd, Int.reduceSub, Nat.reduceLeDiff, Nat.reduceLT]
   refine xLoop_i (fun i => [.int .u64 65536, .int .i64 (C.base 0), .pointer (some ⟨p, 0, none⟩), .slice (some ⟨b, 0, none⟩) z.toNat 1, .int .i64 i]) [N.el C 0, [.int .i64 2, .int .i64 z, .int .i64 0, .int .i64 1, .bool false]] z
    (fun i τ => ∃ A', 0 ≤ i ∧ i ≤ z ∧ isA N A' τ ∧ A'.w = A.w ∧ A'.n = A.n ∧ A'.ok (3000000 + 4 * i) ∧ PrB N σ p O m none b ⟨cells .i64 z.toNat L, true⟩ τ) ?_ ⟨A, Int.le_refl 0, by omega, hW.is, rfl, rfl, by simpa using hW.ok, hW.pr⟩
   rintro i τ3 ⟨A3, i0, i1, hA3, hw3, hn3, hok3, hpr3⟩ R hR
   simp only [w_law11_MoveWrites_l41, w_law11_MoveWrites_l41b, ruS, ruL, ruE, Nat.reduceAdd, reduceIte, Int.reduceLT, Int.reduceLE, Int.reduceEq, Int.reduceNeg, Int.reduceAdd, Int.reduceSub, Nat.reduceLeDiff, Nat.reduceLT]
   have hsm3 : Smv C z 0 L V 1 loc A3.w := by rw [hw3]; exact hsm
   by_cases ci : i < z
   ·have ci' : i < ((z.toNat : Nat) : Int) := by omega
    simp only [ci, w_a6_j7, w_a6_j7b, ruS, ruL, ruE, Nat.reduceAdd, reduceIte, Int.reduceLT, Int.reduceLE, Int.reduceEq, Int.reduceNeg, Int.reduceAdd, Int.reduceSub, Nat.reduceLeDiff, Nat.reduceLT]
    have nxt : ∀ A4 τ4, A4.w = A3.w → A4.n = A3.n → A4.ok (3000000 + 4 * i + 4) → isA N A4 τ4 → Keep N.l τ3 τ4 → R [.int .u64 65536, .int .i64 (C.base 0), .pointer (some ⟨p, 0, none⟩), .slice (some ⟨b, 0, none⟩) z.toNat 1, .int .i64 (i + 1)] [N.el C 0, [.int .i64 2, .int .i64 z, .int .i64 0, .int .i64 1, .bool false]] τ4 := fun A4 τ4 h1 h2 h3 h4 h5 =>
     hR _ ci ⟨A4, by omega, by omega, h4, h1.trans hw3, h2.trans hn3, by rw [show 3000000 + 4 * (i + 1) = 3000000 + 4 * i + 4 by omega]; exact h3, hpr3.arena hfr h5⟩
    constructor
    ·refine c_readS hN hA3 g0 hsm3 ⟨i0, ci⟩ hok3 (by omega) (by omega) (by omega) fun oH oS A4 τ4 h1 h2 h3 h4 h5 => ?_
     simp only [f2, ruS, ruL, ruE, Nat.reduceAdd, reduceIte, Int.reduceLT, Int.reduceLE, Int.reduceEq, Int.reduceNeg, Int.reduceAdd, Int.reduceSub, Nat.reduceLeDiff, Nat.reduceLT]
     rw [xIxS i0 ci', Nat.zero_add, ldCells (hpr3.arena hfr h5).gb i0 ci']
     simp only [ne_eq, not_true_eq_false, ruS, ruL, ruE, Nat.reduceAdd, reduceIte, Int.reduceLT, Int.reduceLE, Int.reduceEq, Int.reduceNeg, Int.reduceAdd, Int.reduceSub, Nat.reduceLeDiff, Nat.reduceLT]
     rw [IntWalk.i64_in (i + 1) (by omega)]
     exact nxt A4 τ4 h1 h2 h3 h4 h5
    ·rw [xIxS i0 ci', Nat.zero_add, ldCells hpr3.gb i0 ci']
     refine c_readS hN hA3 g0 hsm3 ⟨i0, ci⟩ hok3 (by omega) (by omega) (by omega) fun oH oS A4 τ4 h1 h2 h3 h4 h5 => ?_
     simp only [f2, ne_eq, not_true_eq_false, ruS, ruL, ruE, Nat.reduceAdd, reduceIte, Int.reduceLT, Int.reduceLE, Int.reduceEq, Int.reduceNeg, Int.reduceAdd, Int.reduceSub, Nat.reduceLeDiff, Nat.reduceLT]
     rw [IntWalk.i64_in (i + 1) (by omega)]
     exact nxt A4 τ4 h1 h2 h3 h4 h5
   ·obtain ⟨a, ap, ao, _⟩ := hpr3.pr.mo.out
    simp only [ci, w_a6_j6, w_a6_j6b, ruS, ruL, ruE, Nat.reduceAdd, reduceIte, Int.reduceLT, Int.reduceLE, Int.reduceEq, Int.reduceNeg, Int.reduceAdd, Int.reduceSub, Nat.reduceLeDiff, Nat.reduceLT]
    refine c_MoveOut ap ?_
    rw [ao]
    rcases s3 with ⟨o1, rfl⟩ | ⟨o3, rfl⟩
    ·rw [o1]
     simp only [ruS, ruL, ruE, Nat.reduceAdd, reduceIte, Int.reduceLT, Int.reduceLE, Int.reduceEq, Int.reduceNeg, Int.reduceAdd, Int.reduceSub, Nat.reduceLeDiff, Nat.reduceLT]
     rw [c_where hN hC hA3 (by omega) (hok3.w _), hw3, s2]
     have hne : Cur C 0 true ≠ C.base 0 := by unfold Cur; rw [if_pos rfl, Int.zero_add]; omega
     simp only [f1, hne, ne_eq, not_false_eq_true, ruS, ruL, ruE, Nat.reduceAdd, reduceIte, Int.reduceLT, Int.reduceLE, Int.reduceEq, Int.reduceNeg, Int.reduceAdd, Int.reduceSub, Nat.reduceLeDiff, Nat.reduceLT]
    ·rw [o3]
     have hne : Cur C 0 false = C.base 0 := rfl
     simp only [ruS, ruL, ruE, Nat.reduceAdd, reduceIte, Int.reduceLT, Int.reduceLE, Int.reduceEq, Int.reduceNeg, Int.reduceAdd, Int.reduceSub, Nat.reduceLeDiff, Nat.reduceLT]
     rw [c_where hN hC hA3 (by omega) (hok3.w _), hw3, s2, hne]
     simp only [f1, ruS, ruL, ruE, Nat.reduceAdd, reduceIte, Int.reduceLT, Int.reduceLE, Int.reduceEq, Int.reduceNeg, Int.reduceAdd, Int.reduceSub, Nat.reduceLeDiff, Nat.reduceLT]
  ·cases h1
 -- he who lays ends, alone
 have part3 : ∀ q at' O m A a L τ, Ws N C σ z T g len p b q at' true O m A a L τ 2500000 → w_a6_j3 (fun v _ => v = .bool true) [s, .int .u64 65536, .int .i64 (C.base 0), .pointer (some ⟨p, 0, none⟩), .bool true, .int .i64 at', rdP a, .slice (some ⟨b, 0, none⟩) z.toNat 1] [N.el C 0, [.int .i64 2, .int .i64 z, .int .i64 0, .int .i64 1, .bool false]] τ := by
  intro q at' O m A a L τ hW
  simp only [w_a6_j3, w_a6_j3b, ruS, ruL, ruE, Nat.reduceAdd, reduceIte, Int.reduceLT, Int.reduceLE, Int.reduceEq, Int.reduceNeg, Int.reduceAdd, Int.reduceSub, Nat.reduceLeDiff, Nat.reduceLT]
  refine xLoop_r (fun x ts ls τ => ∃ k q aw A a L, x = (200 - k).toNat ∧ ts = [s, .int .u64 65536, .int .i64 (C.base 0), .pointer (some ⟨p, 0, none⟩), .bool true, .int .i64 at', rdP a, .slice (some ⟨b, 0, none⟩) z.toNat 1, .int .i64 k] ∧ ls = [N.el C 0, [.int .i64 2, .int .i64 z, .int .i64 0, .int .i64 1, .bool false]] ∧ 0 ≤ k ∧ k ≤ 20 ∧
    (∀ qa Q ak, a = some (qa, Q, ak) → aw = at' ∧ k + rkW C (at'.tmod z) ak A.w ≤ 8) ∧ Ws N C σ z T g len p b q aw true O m A a L τ (2500000 + k)) ?_ (n := 200)
   ⟨0, q, at', A, a, L, by decide, rfl, rfl, Int.le_refl 0, by decide, fun qa Q ak e => ⟨rfl, by have := (rkW_bd (C := C) (ix := at'.tmod z) (m := ak) (w := A.w)).2; omega⟩, by simpa using hW⟩
  rintro x ts ls τ2 ⟨k, q, aw, A2, a, L, rfl, rfl, rfl, k0, k1, hrk, hW2⟩ R hR
  have k200 : k < 200 := by omega
  simp only [w_law11_MoveWrites_l31, w_law11_MoveWrites_l31b, k200, ruS, ruL, ruE, Nat.reduceAdd, reduceIte, Int.reduceLT, Int.reduceLE, Int.reduceEq, Int.reduceNeg, Int.reduceAdd, Int.reduceSub, Nat.reduceLeDiff, Nat.reduceLT]
  cases a with
  | none =>
   simp only [rdP, w_a6_j4, w_a6_j4b, ruS, ruL, ruE, Nat.reduceAdd, reduceIte, Int.reduceLT, Int.reduceLE, Int.reduceEq, Int.reduceNeg, Int.reduceAdd, Int.reduceSub, Nat.reduceLeDiff, Nat.reduceLT]
   exact part5 q aw O m A2 L τ2 (hW2.mono (by omega))
  | some a =>
   obtain ⟨qa, Q, ak⟩ := a
   obtain ⟨rfl, hrk2⟩ := hrk qa Q ak rfl
   have hrb := rkW_bd (C := C) (ix := aw.tmod z) (m := ak) (w := A2.w)
   obtain ⟨ha1, hfit, hat, hst⟩ := hW2.acc g0 hfr (by omega)
   have hab := hW2.ab
   have hix := hlk τ2 L hab.1
   simp only [rdP, w_a6_j8, w_a6_j8b, ruS, ruL, ruE, Nat.reduceAdd, reduceIte, Int.reduceLT, Int.reduceLE, Int.reduceEq, Int.reduceNeg, Int.reduceAdd, Int.reduceSub, Nat.reduceLeDiff, Nat.reduceLT]
   refine c_Acc_Step hN hC hW2.is ha1 hW2.ok.w (by rw [hW2.n]; omega) hfit fun Q' τ3 hQ' hA3 hQ3 hK3 => ?_
   obtain ⟨⟨Q2, hpr3⟩, hst⟩ := hst Q' τ3 hQ' hA3 hQ3 hK3
   generalize ak.step C 0 A2 = r at *
   obtain ⟨d, m', A3⟩ := r
   dsimp only at *
   rcases hst with ⟨rfl, ⟨Q3, q3, hW3⟩, hr3⟩ | ⟨rfl, oe, ov, hfin⟩
   ·simp only [w_a6_j9, w_a6_j9b, ruS, ruL, ruE, Nat.reduceAdd, reduceIte, Int.reduceLT, Int.reduceLE, Int.reduceEq, Int.reduceNeg, Int.reduceAdd, Int.reduceSub, Nat.reduceLeDiff, Nat.reduceLT]
    rw [IntWalk.i64_in (k + 1) (by omega)]
    have := hr3 rfl
    exact hR (200 - (k + 1)).toNat _ _ _ (by omega) ⟨k + 1, q3, aw, A3, some (qa, Q3, m'), L, rfl, rfl, rfl, by omega, by omega, fun _ _ _ e => by cases e; exact ⟨rfl, by omega⟩, by rw [show 2500000 + (k + 1) = 2500000 + k + 1 by omega]; exact hW3⟩
   ·have hg3 := hgA.keep hpr3.pr.ext
    have hix' : aw.tmod z < ((z.toNat : Nat) : Int) := by omega
    simp only [ruS, ruL, ruE, Nat.reduceAdd, reduceIte, Int.reduceLT, Int.reduceLE, Int.reduceEq, Int.reduceNeg, Int.reduceAdd, Int.reduceSub, Nat.reduceLeDiff, Nat.reduceLT]
    refine AOb.done hA3 (hpr3.pr.ao qa Q2 m' rfl).1 ?_
    simp only [f0, oe, ne_eq, not_true_eq_false, xRem hz0, ruS, ruL, ruE, Nat.reduceAdd, reduceIte, Int.reduceLT, Int.reduceLE, Int.reduceEq, Int.reduceNeg, Int.reduceAdd, Int.reduceSub, Nat.reduceLeDiff, Nat.reduceLT]
    rw [hg3.ix hab.1 hat.1]
    simp only [andI65535, ruS, ruL, ruE, Nat.reduceAdd, reduceIte, Int.reduceLT, Int.reduceLE, Int.reduceEq, Int.reduceNeg, Int.reduceAdd, Int.reduceSub, Nat.reduceLeDiff, Nat.reduceLT]
    rw [xIxS hix.1 hix', Nat.zero_add, stCells hpr3.gb hix.1 hix']
    have hpr4 : PrB N σ p O m none b ⟨cells .i64 z.toNat (upd L (aw.tmod z) (g aw % 65536)), true⟩ (τ3.set b ⟨cells .i64 z.toNat (upd L (aw.tmod z) (g aw % 65536)), true⟩) := hpr3.drop.set
    obtain ⟨q4, hW4⟩ := hfin _ hpr4 (hA3.setO hpr3.nN)
    simp only [w_a6_j9, w_a6_j9b, ruS, ruL, ruE, Nat.reduceAdd, reduceIte, Int.reduceLT, Int.reduceLE, Int.reduceEq, Int.reduceNeg, Int.reduceAdd, Int.reduceSub, Nat.reduceLeDiff, Nat.reduceLT]
    rw [IntWalk.i64_in (k + 1) (by omega)]
    exact hR (200 - (k + 1)).toNat _ _ _ (by omega) ⟨k + 1, q4, aw + 1, A3, none, _, rfl, rfl, rfl, by omega, by omega, fun _ _ _ e => (by cases e), by rw [show 2500000 + (k + 1) = 2500000 + k + 1 by omega]; exact hW4⟩
 -- he who moves ends, alone
 have part2 : ∀ q at' md O m A a L τ, Ws N C σ z T g len p b q at' md O m A a L τ 2100000 → w_a6_j2 (fun v _ => v = .bool true) [s, .int .u64 65536, .int .i64 (C.base 0), .pointer (some ⟨p, 0, none⟩), .bool md, .int .i64 at', rdP a, .slice (some ⟨b, 0, none⟩) z.toNat 1] [N.el C 0, [.int .i64 2, .int .i64 z, .int .i64 0, .int .i64 1, .bool false]] τ := by
  intro q at' md O m A a L τ hW
  simp only [w_a6_j2, w_a6_j2b, ruS, ruL, ruE, Nat.reduceAdd, reduceIte, Int.reduceLT, Int.reduceLE, Int.reduceEq, Int.reduceNeg, Int.reduceAdd, Int.reduceSub, Nat.reduceLeDiff, Nat.reduceLT]
  refine xLoop_r (fun x ts ls τ => ∃ k q md O m A, x = (900 - k).toNat ∧ ts = [s, .int .u64 65536, .int .i64 (C.base 0), .pointer (some ⟨p, 0, none⟩), .bool md, .int .i64 at', rdP a, .slice (some ⟨b, 0, none⟩) z.toNat 1, .int .i64 k] ∧ ls = [N.el C 0, [.int .i64 2, .int .i64 z, .int .i64 0, .int .i64 1, .bool false]] ∧ 0 ≤ k ∧ k ≤ 400 ∧
    (md = false → k + q ≤ 376) ∧ Ws N C σ z T g len p b q at' md O m A a L τ (2100000 + k)) ?_ (n := 900)
   ⟨0, q, md, O, m, A, by decide, rfl, rfl, Int.le_refl 0, by decide, fun e => by subst e; have := (hW.mv g0 hfr hT (by decide)).2.2.1; omega, by simpa using hW⟩
  rintro x ts ls τ2 ⟨k, q, md, O, m, A2, rfl, rfl, rfl, k0, k1, hq, hW2⟩ R hR
  have k900 : k < 900 := by omega
  simp only [w_law11_MoveWrites_l27, w_law11_MoveWrites_l27b, k900, ruS, ruL, ruE, Nat.reduceAdd, reduceIte, Int.reduceLT, Int.reduceLE, Int.reduceEq, Int.reduceNeg, Int.reduceAdd, Int.reduceSub, Nat.reduceLeDiff, Nat.reduceLT]
  cases md with
  | true =>
   simp only [ruS, ruL, ruE, Nat.reduceAdd, reduceIte, Int.reduceLT, Int.reduceLE, Int.reduceEq, Int.reduceNeg, Int.reduceAdd, Int.reduceSub, Nat.reduceLeDiff, Nat.reduceLT]
   exact part3 q at' O m A2 a L τ2 (hW2.mono (by omega))
  | false =>
   obtain ⟨hfit, q1, _, hst⟩ := hW2.mv g0 hfr hT (by omega)
   have hq' := hq rfl
   simp only [w_a6_j10, w_a6_j10b, ruS, ruL, ruE, Nat.reduceAdd, reduceIte, Int.reduceLT, Int.reduceLE, Int.reduceEq, Int.reduceNeg, Int.reduceAdd, Int.reduceSub, Nat.reduceLeDiff, Nat.reduceLT]
   refine c_Mv_Step hN hC hW2.is hW2.pr.pr.mo hW2.ok.w (by rw [hW2.n]; omega) hfit fun O' τ3 hO' hA3 hO3 hK3 => ?_
   obtain ⟨O2, hW3⟩ := hst O' τ3 hO' hA3 hO3 hK3
   rw [IntWalk.i64_in (k + 1) (by omega)]
   exact hR (900 - (k + 1)).toNat _ _ _ (by omega) ⟨k + 1, q - 1, _, O2, _, _, rfl, rfl, rfl, by omega, by omega, fun _ => by omega, by rw [show 2100000 + (k + 1) = 2100000 + k + 1 by omega]; exact hW3⟩
 -- all at once
 refine xLoop_r (fun x ts ls τ => ∃ k q at' md O m A a L, x = (900 - k).toNat ∧ ts = [s, s2, .int .u64 65536, .int .i64 (C.base 0), .pointer (some ⟨p, 0, none⟩), .bool md, .int .i64 at', rdP a, .slice (some ⟨b, 0, none⟩) z.toNat 1, .int .i64 k] ∧ ls = [N.el C 0, [.int .i64 2, .int .i64 z, .int .i64 0, .int .i64 1, .bool false]] ∧ 0 ≤ k ∧ k ≤ 900 ∧ Ws N C σ z T g len p b q at' md O m A a L τ (2000000 + k)) ?_ (n := 900)
  ⟨0, _, 0, false, [p], _, A0, none, fun _ => 0, by decide, rfl, rfl, Int.le_refl 0, by decide, by simpa using hW0⟩
 rintro x ts ls τ3 ⟨k, q, at', md, O, m, A, a, L, rfl, rfl, rfl, k0, k1, hW⟩ R hR
 have hext := hW.pr.pr.ext
 have hg3 := hgA.keep hext
 have hp3 := hpA.keep hext
 have hab := hW.ab
 have hw400 : IntKind.i64.wrap ((len2 : Int) + 400) = (len2 : Int) + 400 := IntWalk.i64_in _ (by omega)
 simp only [w_law11_MoveWrites_l9, w_law11_MoveWrites_l9b, hp3.len, hw400, ruS, ruL, ruE, Nat.reduceAdd, reduceIte, Int.reduceLT, Int.reduceLE, Int.reduceEq, Int.reduceNeg, Int.reduceAdd, Int.reduceSub, Nat.reduceLeDiff, Nat.reduceLT]
 have nxt : ∀ q at2 md O m A a L τ, Ws N C σ z T g len p b q at2 md O m A a L τ (2000000 + k + 1) → k < 900 → w_a6_j12 (fun v _ => v = .bool true) (w_a6_j2 fun v _ => v = .bool true) R [s, s2, .int .u64 65536, .int .i64 (C.base 0), .pointer (some ⟨p, 0, none⟩), .bool md, .int .i64 at2, rdP a, .slice (some ⟨b, 0, none⟩) z.toNat 1, .int .i64 k] [N.el C 0, [.int .i64 2, .int .i64 z, .int .i64 0, .int .i64 1, .bool false]] τ := by
  intro q at2 md O m A a L τ h hk
  simp only [w_a6_j12, w_a6_j12b, ruS, ruL, ruE, Nat.reduceAdd, reduceIte, Int.reduceLT, Int.reduceLE, Int.reduceEq, Int.reduceNeg, Int.reduceAdd, Int.reduceSub, Nat.reduceLeDiff, Nat.reduceLT]
  rw [IntWalk.i64_in (k + 1) (by omega)]
  exact hR (900 - (k + 1)).toNat _ _ _ (by omega) ⟨k + 1, q, at2, md, O, m, A, a, L, rfl, rfl, rfl, by omega, by omega, by rw [show 2000000 + (k + 1) = 2000000 + k + 1 by omega]; exact h⟩
 have go : k < 900 → w_a6_j11 (fun v _ => v = .bool true) (w_a6_j2 fun v _ => v = .bool true) R [s, s2, .int .u64 65536, .int .i64 (C.base 0), .pointer (some ⟨p, 0, none⟩), .bool md, .int .i64 at', rdP a, .slice (some ⟨b, 0, none⟩) z.toNat 1, .int .i64 k] [N.el C 0, [.int .i64 2, .int .i64 z, .int .i64 0, .int .i64 1, .bool false]] τ3 := by
  intro c1
  have mvs : w_a6_j13 (fun v _ => v = .bool true) (w_a6_j2 fun v _ => v = .bool true) R (w_a6_j12 (fun v _ => v = .bool true) (w_a6_j2 fun v _ => v = .bool true) R) [s, s2, .int .u64 65536, .int .i64 (C.base 0), .pointer (some ⟨p, 0, none⟩), .bool md, .int .i64 at', rdP a, .slice (some ⟨b, 0, none⟩) z.toNat 1, .int .i64 k, .int .i64 0] [N.el C 0, [.int .i64 2, .int .i64 z, .int .i64 0, .int .i64 1, .bool false]] τ3 := by
   simp only [w_a6_j13, w_a6_j13b, ruS, ruL, ruE, Nat.reduceAdd, reduceIte, Int.reduceLT, Int.reduceLE, Int.reduceEq, Int.reduceNeg, Int.reduceAdd, Int.reduceSub, Nat.reduceLeDiff, Nat.reduceLT]
   cases md with
   | true =>
    simp only [ruS, ruL, ruE, Nat.reduceAdd, reduceIte, Int.reduceLT, Int.reduceLE, Int.reduceEq, Int.reduceNeg, Int.reduceAdd, Int.reduceSub, Nat.reduceLeDiff, Nat.reduceLT]
    exact nxt q at' true O m A a L τ3 (hW.mono (by omega)) c1
   | false =>
    obtain ⟨hfit, q1, _, hst⟩ := hW.mv g0 hfr hT (by omega)
    simp only [ruS, ruL, ruE, Nat.reduceAdd, reduceIte, Int.reduceLT, Int.reduceLE, Int.reduceEq, Int.reduceNeg, Int.reduceAdd, Int.reduceSub, Nat.reduceLeDiff, Nat.reduceLT]
    refine c_Mv_Step hN hC hW.is hW.pr.pr.mo hW.ok.w (by rw [hW.n]; omega) hfit fun O' τ4 hO' hA4 hO4 hK4 => ?_
    obtain ⟨O2, hW4⟩ := hst O' τ4 hO' hA4 hO4 hK4
    exact nxt (q - 1) at' _ O2 _ _ a L τ4 hW4 c1
  have lays : w_a6_j13 (fun v _ => v = .bool true) (w_a6_j2 fun v _ => v = .bool true) R (w_a6_j12 (fun v _ => v = .bool true) (w_a6_j2 fun v _ => v = .bool true) R) [s, s2, .int .u64 65536, .int .i64 (C.base 0), .pointer (some ⟨p, 0, none⟩), .bool md, .int .i64 at', rdP a, .slice (some ⟨b, 0, none⟩) z.toNat 1, .int .i64 k, .int .i64 1] [N.el C 0, [.int .i64 2, .int .i64 z, .int .i64 0, .int .i64 1, .bool false]] τ3 := by
   simp only [w_a6_j13, w_a6_j13b, ruS, ruL, ruE, Nat.reduceAdd, reduceIte, Int.reduceLT, Int.reduceLE, Int.reduceEq, Int.reduceNeg, Int.reduceAdd, Int.reduceSub, Nat.reduceLeDiff, Nat.reduceLT]
   have stp : ∀ qa Q ak τ, Ws N C σ z T g len p b q at' md O m A (some (qa, Q, ak)) L τ (2000000 + k) → w_a6_j14 (fun v _ => v = .bool true) (w_a6_j2 fun v _ => v = .bool true) R (w_a6_j12 (fun v _ => v = .bool true) (w_a6_j2 fun v _ => v = .bool true) R) [s, s2, .int .u64 65536, .int .i64 (C.base 0), .pointer (some ⟨p, 0, none⟩), .bool md, .int .i64 at', .pointer (some ⟨qa, 0, none⟩), .slice (some ⟨b, 0, none⟩) z.toNat 1, .int .i64 k] [N.el C 0, [.int .i64 2, .int .i64 z, .int .i64 0, .int .i64 1, .bool false]] τ := by
    intro qa Q ak τ hW
    obtain ⟨ha1, hfit, hat, hst⟩ := hW.acc g0 hfr (by omega)
    have hix := hlk τ L hab.1
    simp only [w_a6_j14, w_a6_j14b, ruS, ruL, ruE, Nat.reduceAdd, reduceIte, Int.reduceLT, Int.reduceLE, Int.reduceEq, Int.reduceNeg, Int.reduceAdd, Int.reduceSub, Nat.reduceLeDiff, Nat.reduceLT]
    refine c_Acc_Step hN hC hW.is ha1 hW.ok.w (by rw [hW.n]; omega) hfit fun Q' τ3 hQ' hA3 hQ3 hK3 => ?_
    obtain ⟨⟨Q2, hpr3⟩, hst⟩ := hst Q' τ3 hQ' hA3 hQ3 hK3
    generalize ak.step C 0 A = r at *
    obtain ⟨d, m', A3⟩ := r
    dsimp only at *
    rcases hst with ⟨rfl, ⟨Q3, q3, hW3⟩, _⟩ | ⟨rfl, oe, ov, hfin⟩
    ·simp only [ruS, ruL, ruE, Nat.reduceAdd, reduceIte, Int.reduceLT, Int.reduceLE, Int.reduceEq, Int.reduceNeg, Int.reduceAdd, Int.reduceSub, Nat.reduceLeDiff, Nat.reduceLT]
     exact nxt q3 at' md O m A3 (some (qa, Q3, m')) L τ3 hW3 c1
    ·have hg3 := hgA.keep hpr3.pr.ext
     have hix' : at'.tmod z < ((z.toNat : Nat) : Int) := by omega
     simp only [ruS, ruL, ruE, Nat.reduceAdd, reduceIte, Int.reduceLT, Int.reduceLE, Int.reduceEq, Int.reduceNeg, Int.reduceAdd, Int.reduceSub, Nat.reduceLeDiff, Nat.reduceLT]
     refine AOb.done hA3 (hpr3.pr.ao qa Q2 m' rfl).1 ?_
     simp only [f0, oe, ne_eq, not_true_eq_false, ruS, ruL, ruE, Nat.reduceAdd, reduceIte, Int.reduceLT, Int.reduceLE, Int.reduceEq, Int.reduceNeg, Int.reduceAdd, Int.reduceSub, Nat.reduceLeDiff, Nat.reduceLT]
     refine AOb.done hA3 (hpr3.pr.ao qa Q2 m' rfl).1 ?_
     simp only [f2, ov, xRem hz0, ruS, ruL, ruE, Nat.reduceAdd, reduceIte, Int.reduceLT, Int.reduceLE, Int.reduceEq, Int.reduceNeg, Int.reduceAdd, Int.reduceSub, Nat.reduceLeDiff, Nat.reduceLT]
     rw [xIxS hix.1 hix', Nat.zero_add, ldCells hpr3.gb hix.1 hix']
     simp only [ne_eq, not_true_eq_false, w_a6_j15, w_a6_j15b, xRem hz0, ruS, ruL, ruE, Nat.reduceAdd, reduceIte, Int.reduceLT, Int.reduceLE, Int.reduceEq, Int.reduceNeg, Int.reduceAdd, Int.reduceSub, Nat.reduceLeDiff, Nat.reduceLT]
     rw [hg3.ix hab.1 hat.1]
     simp only [andI65535, ruS, ruL, ruE, Nat.reduceAdd, reduceIte, Int.reduceLT, Int.reduceLE, Int.reduceEq, Int.reduceNeg, Int.reduceAdd, Int.reduceSub, Nat.reduceLeDiff, Nat.reduceLT]
     rw [xIxS hix.1 hix', Nat.zero_add, stCells hpr3.gb hix.1 hix']
     have hpr4 : PrB N σ p O m none b ⟨cells .i64 z.toNat (upd L (at'.tmod z) (g at' % 65536)), true⟩ (τ3.set b ⟨cells .i64 z.toNat (upd L (at'.tmod z) (g at' % 65536)), true⟩) := hpr3.drop.set
     obtain ⟨q4, hW4⟩ := hfin _ hpr4 (hA3.setO hpr3.nN)
     rw [IntWalk.i64_in (at' + 1) (by omega)]
     exact nxt q4 (at' + 1) md O m A3 none _ _ hW4 c1
   cases a with
   | none =>
    simp only [rdP, hg3.len, ruS, ruL, ruE, Nat.reduceAdd, reduceIte, Int.reduceLT, Int.reduceLE, Int.reduceEq, Int.reduceNeg, Int.reduceAdd, Int.reduceSub, Nat.reduceLeDiff, Nat.reduceLT]
    have skip : w_a6_j12 (fun v _ => v = .bool true) (w_a6_j2 fun v _ => v = .bool true) R [s, s2, .int .u64 65536, .int .i64 (C.base 0), .pointer (some ⟨p, 0, none⟩), .bool md, .int .i64 at', .pointer none, .slice (some ⟨b, 0, none⟩) z.toNat 1, .int .i64 k] [N.el C 0, [.int .i64 2, .int .i64 z, .int .i64 0, .int .i64 1, .bool false]] τ3 := nxt q at' md O m A none L τ3 (hW.mono (by omega)) c1
    by_cases d1 : (len : Int) ≤ at'
    ·simp only [d1, ruS, ruL, ruE, Nat.reduceAdd, reduceIte, Int.reduceLT, Int.reduceLE, Int.reduceEq, Int.reduceNeg, Int.reduceAdd, Int.reduceSub, Nat.reduceLeDiff, Nat.reduceLT]; exact skip
    ·simp only [d1, ruS, ruL, ruE, Nat.reduceAdd, reduceIte, Int.reduceLT, Int.reduceLE, Int.reduceEq, Int.reduceNeg, Int.reduceAdd, Int.reduceSub, Nat.reduceLeDiff, Nat.reduceLT]
     by_cases d2 : 60 ≤ at'
     ·simp only [d2, ruS, ruL, ruE, Nat.reduceAdd, reduceIte, Int.reduceLT, Int.reduceLE, Int.reduceEq, Int.reduceNeg, Int.reduceAdd, Int.reduceSub, Nat.reduceLeDiff, Nat.reduceLT]; exact skip
     ·simp only [d2, w_a6_j16, w_a6_j16b, xRem hz0, ruS, ruL, ruE, Nat.reduceAdd, reduceIte, Int.reduceLT, Int.reduceLE, Int.reduceEq, Int.reduceNeg, Int.reduceAdd, Int.reduceSub, Nat.reduceLeDiff, Nat.reduceLT]
      rw [hg3.ix hab.1 (by omega)]
      simp only [andI65535, b4', ruS, ruL, ruE, Nat.reduceAdd, reduceIte, Int.reduceLT, Int.reduceLE, Int.reduceEq, Int.reduceNeg, Int.reduceAdd, Int.reduceSub, Nat.reduceLeDiff, Nat.reduceLT]
      refine aob_new hW.is fun qa τ4 hq hob x4 => ?_
      exact stp qa [qa] _ τ4 (hW.anew g0 (by omega) (by omega) hq hob x4)
   | some a =>
    obtain ⟨qa, Q, ak⟩ := a
    simp only [rdP, ruS, ruL, ruE, Nat.reduceAdd, reduceIte, Int.reduceLT, Int.reduceLE, Int.reduceEq, Int.reduceNeg, Int.reduceAdd, Int.reduceSub, Nat.reduceLeDiff, Nat.reduceLT]
    exact stp qa Q ak τ3 hW
  have both : ∀ y : Int, y = 0 ∨ y = 1 → w_a6_j13 (fun v _ => v = .bool true) (w_a6_j2 fun v _ => v = .bool true) R (w_a6_j12 (fun v _ => v = .bool true) (w_a6_j2 fun v _ => v = .bool true) R) [s, s2, .int .u64 65536, .int .i64 (C.base 0), .pointer (some ⟨p, 0, none⟩), .bool md, .int .i64 at', rdP a, .slice (some ⟨b, 0, none⟩) z.toNat 1, .int .i64 k, .int .i64 y] [N.el C 0, [.int .i64 2, .int .i64 z, .int .i64 0, .int .i64 1, .bool false]] τ3 := by
   rintro y (rfl | rfl)
   ·exact mvs
   ·exact lays
  simp only [w_a6_j11, w_a6_j11b, andI1, hp3.len, ruS, ruL, ruE, Nat.reduceAdd, reduceIte, Int.reduceLT, Int.reduceLE, Int.reduceEq, Int.reduceNeg, Int.reduceAdd, Int.reduceSub, Nat.reduceLeDiff, Nat.reduceLT]
  by_cases c3 : k < (len2 : Int)
  ·by_cases c4 : k < 500
   ·simp only [c3, c4, w_a6_j17, w_a6_j17b, ruS, ruL, ruE, Nat.reduceAdd, reduceIte, Int.reduceLT, Int.reduceLE, Int.reduceEq, Int.reduceNeg, Int.reduceAdd, Int.reduceSub, Nat.reduceLeDiff, Nat.reduceLT]
    rw [hp3.ix k0 c3]
    simp only [andI1, ruS, ruL, ruE, Nat.reduceAdd, reduceIte, Int.reduceLT, Int.reduceLE, Int.reduceEq, Int.reduceNeg, Int.reduceAdd, Int.reduceSub, Nat.reduceLeDiff, Nat.reduceLT]
    exact both _ (by omega)
   ·simp only [c3, c4, w_a6_j17, w_a6_j17b, ruS, ruL, ruE, Nat.reduceAdd, reduceIte, Int.reduceLT, Int.reduceLE, Int.reduceEq, Int.reduceNeg, Int.reduceAdd, Int.reduceSub, Nat.reduceLeDiff, Nat.reduceLT]
    exact both _ (by omega)
  ·simp only [c3, w_a6_j17, w_a6_j17b, ruS, ruL, ruE, Nat.reduceAdd, reduceIte, Int.reduceLT, Int.reduceLE, Int.reduceEq, Int.reduceNeg, Int.reduceAdd, Int.reduceSub, Nat.reduceLeDiff, Nat.reduceLT]
   exact both _ (by omega)
 have fin := part2 q at' md O m A a L τ3 (hW.mono (by omega))
 by_cases c2 : k < (len2 : Int) + 400
 ·simp only [c2, ruS, ruL, ruE, Nat.reduceAdd, reduceIte, Int.reduceLT, Int.reduceLE, Int.reduceEq, Int.reduceNeg, Int.reduceAdd, Int.reduceSub, Nat.reduceLeDiff, Nat.reduceLT]
  by_cases c1 : k < 900
  ·simp only [c1, ruS, ruL, ruE, Nat.reduceAdd, reduceIte, Int.reduceLT, Int.reduceLE, Int.reduceEq, Int.reduceNeg, Int.reduceAdd, Int.reduceSub, Nat.reduceLeDiff, Nat.reduceLT]
   exact go c1
  ·simp only [c1, ruS, ruL, ruE, Nat.reduceAdd, reduceIte, Int.reduceLT, Int.reduceLE, Int.reduceEq, Int.reduceNeg, Int.reduceAdd, Int.reduceSub, Nat.reduceLeDiff, Nat.reduceLT]
   exact fin
 ·simp only [c2, ruS, ruL, ruE, Nat.reduceAdd, reduceIte, Int.reduceLT, Int.reduceLE, Int.reduceEq, Int.reduceNeg, Int.reduceAdd, Int.reduceSub, Nat.reduceLeDiff, Nat.reduceLT]
  exact fin
end Go.Fl
