/- What the claim leans on, part 6: own readings of the program's functions, what they come to, laws of them. No condition. -/
import Derived.Test.YtdpojblcjobaoaaZAccessStops5
namespace Go.Fl
open Go
set_option linter.unusedVariables false
set_option linter.unusedSimpArgs false
variable {N : Nm} {A B : Ar} {σ : Mem} {K : Value → Mem → Prop} {C : Cf} {who : Int}
def rk (pc : Int) : Int := if pc = 0 then 0 else if pc = 1 then 1 else if pc = 2 then 2 else 3
theorem rk_bd (pc : Int) : 0 ≤ rk pc ∧ rk pc ≤ 3 := by unfold rk; (repeat' split) <;> decide
structure S0 (C : Cf) (a ver bb : Int) (fz : Bool) (A0 : Ar) : Prop where
  v : 0 ≤ ver ∧ ver ≤ 65535
  ab : C.base 0 ≤ a ∧ a + 2 < C.len
  W : A0.w (C.slot 0) = putSlot 2 a 1 ver
  hd : hdO (A0.w a) = false ∧ hdS (A0.w a) = 2
  c : A0.w (a + 1) = putCell (if fz = true then 3 else 0) fz ver
  ok : A0.ok bb
  n1 : C.len ≤ A0.n
  n2 : (A0.n : Int) ≤ 200000000
structure SI (C : Cf) (a ver : Int) (fz : Bool) (kd : Int) (A0 : Ar) (bb k : Int) (m : Ak) (A : Ar) : Prop where
  lg : Lg C 65536 false kd 0 9 0 m
  ok : A.ok (bb + k)
  n : A.n = A0.n
  cl : m.a.pc = 3 ∨ m.a.pc = 5 ∨ m.a.pc = 6 → m.a.cell = A0.w (a + 1)
  r : A.w = A0.w ∧ (m.a.pc ≠ 0 → m.a.w = putSlot 2 a 1 ver) ∧ k = rk m.a.pc ∧ (m.a.pc = 3 → fz = true) ∨
    fz = true ∧ kd ≠ 1 ∧ A.w = upd A0.w (C.slot 0) (putSlot 1 a 1 (ver + 1)) ∧ (m.a.pc ≠ 0 → m.a.w = putSlot 1 a 1 (ver + 1)) ∧ m.a.pc ≠ 3 ∧ k = 4 + rk m.a.pc
structure SD (C : Cf) (a ver : Int) (fz : Bool) (kd : Int) (A0 : Ar) (bb : Int) (m : Ak) (A : Ar) : Prop where
  e : m.a.oE = 0 ∧ m.a.oV = (if fz = true then 3 else 0)
  n : A.n = A0.n
  w : kd = 1 ∧ A.w = A0.w ∨ kd ≠ 1 ∧ fz = false ∧ A.w = upd A0.w (a + 1) 9 ∨ kd ≠ 1 ∧ fz = true ∧ A.w = upd (upd A0.w (C.slot 0) (putSlot 1 a 1 (ver + 1))) (a + 1) 9
theorem SI.step (hC : C.ok) {a ver bb k kd : Int} {fz : Bool} {A0 : Ar} {m : Ak} (h0 : S0 C a ver bb fz A0) (h : SI C a ver fz kd A0 bb k m A) (hb : bb < 2000000000) (hkd : kd = 1 ∨ kd = 2) (hk : 0 ≤ k ∧ k < 200) :
    m.fit C A ∧ k ≤ 7 ∧ ((m.step C who A).1 = false ∧ SI C a ver fz kd A0 bb (k + 1) (m.step C who A).2.1 (m.step C who A).2.2 ∨ (m.step C who A).1 = true ∧ SD C a ver fz kd A0 bb (m.step C who A).2.1 (m.step C who A).2.2) := by
  have hT := hC.T
  have hS := hC.S
  have hCC := hC.C
  have hll := len_bd hC
  have hb0 : C.base 0 = 6 + C.T + 2 * C.S + 3 * C.C := by unfold Cf.base; omega
  have hv := h0.v
  have ha := h0.ab
  have esl : C.slot 0 = 6 + C.T := by unfold Cf.slot; omega
  obtain ⟨p1, p2, p3, p4⟩ := sl_put (st := 2) (ad := a) (ge := 1) (ve := ver) (by decide) (by omega) (by decide) (by omega)
  obtain ⟨q1, q2, q3, q4⟩ := sl_put (st := 1) (ad := a) (ge := 1) (ve := ver + 1) (by decide) (by omega) (by decide) (by omega)
  obtain ⟨z1, z2, z3⟩ := ce_put (v := if fz = true then 3 else 0) (f := fz) (n := ver) (by split <;> decide) (by omega)
  have lkd : ∀ c, Lk kd 0 c ↔ kd = 1 := fun c => by unfold Lk; constructor <;> intro q <;> omega
  have h65 : hdSl 65536 = 0 ∧ hdGe 65536 = 1 ∧ hdOk 65536 = true := by decide
  have hok := h.ok
  have hr := h.r
  -- the slot's word, the head, the cell
  have env : (A.w (C.slot 0) = putSlot 2 a 1 ver ∨ A.w (C.slot 0) = putSlot 1 a 1 (ver + 1)) ∧ A.w a = A0.w a ∧ A.w (a + 1) = A0.w (a + 1) := by
    rcases hr with ⟨e, _⟩ | ⟨_, _, e, _⟩
    · rw [e]; exact ⟨.inl h0.W, rfl, rfl⟩
    · rw [e]; exact ⟨.inr (upd_same _ _ _), upd_ne _ _ (by omega), upd_ne _ _ (by omega)⟩
  have mw : m.a.pc ≠ 0 → slA m.a.w = a := fun x => by
    rcases hr with ⟨_, e, _⟩ | ⟨_, _, _, e, _⟩
    · rw [e x]; exact p2
    · rw [e x]; exact q2
  have hlv : lives (A.w (C.slot 0)) 1 ∧ slA (A.w (C.slot 0)) = a ∧ slS (A.w (C.slot 0)) ≠ 4 := by
    rcases env.1 with e | e
    · rw [e]; exact ⟨⟨.inr (.inl p1), p3⟩, p2, by omega⟩
    · rw [e]; exact ⟨⟨.inl q1, q3⟩, q2, by omega⟩
  have hE : LgE C 65536 false 2 0 A m := ⟨by decide, h65.2.2, by rw [h65.1]; omega, fun _ => by rw [h65.1]; exact hlv.2.2, by decide, fun x => by rw [mw (by omega), env.2.1]; exact h0.hd, fun x => by rw [mw x]; exact ha, by rw [h.n]; exact h0.n1, by rw [h.n]; exact h0.n2⟩
  obtain ⟨f1, hR⟩ := h.lg.step (who := who) hC hE hok (by omega)
  have hk7 : k ≤ 7 := by have := rk_bd m.a.pc; rcases hr with ⟨_, _, e, _⟩ | ⟨_, _, _, _, _, e⟩ <;> omega
  refine ⟨f1, hk7, ?_⟩
  generalize m.step C who A = r at *
  obtain ⟨d, m', A'⟩ := r
  dsimp only at *
  have r0 : rk 0 = 0 := rfl
  have r1 : rk 1 = 1 := rfl
  have r2 : rk 2 = 2 := rfl
  have r3 : rk 3 = 3 := rfl
  have r5 : rk 5 = 3 := rfl
  have r6 : rk 6 = 3 := rfl
  have ld : ∀ x, ((A.by who).load x).ok (bb + (k + 1)) := fun x => by
    have a1 := aft_load (who := who) (A := A) (a := x) hok (by omega)
    rw [show bb + (k + 1) = bb + k + 1 by omega]; exact a1.ok (by decide) hok hok.w
  have lk' : m.a.pc = 3 ∨ m.a.pc = 5 → kd ≠ 1 := fun x y => by
    rcases h.lg.at' with q | ⟨_, q | q | ⟨_, q, _⟩ | ⟨_, q, _⟩ | ⟨q, _⟩⟩
    · omega
    · omega
    · omega
    · exact q ((lkd _).2 y)
    · exact q ((lkd _).2 y)
    · omega
  cases hR with
  | see p l q e w s =>
    refine .inl ⟨rfl, q, ld _, h.n, fun x => by omega, ?_⟩
    rw [h65.1] at w
    rcases hr with ⟨g1, g2, g3, g4⟩ | ⟨g1, g2, g3, g4, g5, g6⟩
    · exact .inl ⟨g1, fun _ => by rw [w, g1]; exact h0.W, by rw [e, r1]; rw [p, r0] at g3; omega, fun x => by omega⟩
    · exact .inr ⟨g1, g2, g3, fun _ => by rw [w, g3, upd_same], by omega, by rw [e, r1]; rw [p, r0] at g6; omega⟩
  | gone p l => rw [h65.1, h65.2.1] at l; exact absurd hlv.1 l
  | head p q e w =>
    refine .inl ⟨rfl, q, ld _, h.n, fun x => by omega, ?_⟩
    rcases hr with ⟨g1, g2, g3, g4⟩ | ⟨g1, g2, g3, g4, g5, g6⟩
    · exact .inl ⟨g1, fun _ => by rw [w]; exact g2 (by omega), by rw [e, r2]; rw [p, r1] at g3; omega, fun x => by omega⟩
    · exact .inr ⟨g1, g2, g3, fun _ => by rw [w]; exact g4 (by omega), by omega, by rw [e, r2]; rw [p, r1] at g6; omega⟩
  | load p q w e s e2 =>
    have ec : m'.a.cell = A0.w (a + 1) := by rw [e, mw (by omega), show a + 1 + 0 = a + 1 by omega]; exact env.2.2
    refine .inl ⟨rfl, q, ld _, h.n, fun _ => ec, ?_⟩
    rcases hr with ⟨g1, g2, g3, g4⟩ | ⟨g1, g2, g3, g4, g5, g6⟩
    · have gw := g2 (by omega)
      rw [ec, h0.c, z2, z3, gw, p4, p1] at e2
      refine .inl ⟨g1, fun _ => by rw [w]; exact gw, ?_, fun x => ?_⟩
      · rw [p, r2] at g3
        rcases e2 with ⟨e2, _⟩ | ⟨_, ⟨e2, _⟩ | ⟨x, ⟨e2, _⟩ | ⟨e2, y⟩⟩⟩
        · rw [e2, r6]; omega
        · rw [e2, r5]; omega
        · rw [e2, r3]; omega
        · cases fz with
          | true => simp at y
          | false => simp at x
      · rcases e2 with ⟨e2, _⟩ | ⟨_, ⟨e2, _⟩ | ⟨y, _⟩⟩
        · omega
        · omega
        · cases fz with
          | true => rfl
          | false => simp at y
    · have gw := g4 (by omega)
      subst g1
      rw [ec, h0.c, z2, z3, gw, q4, q1] at e2
      have e5 : m'.a.pc = 5 := by
        rcases e2 with ⟨_, e2⟩ | ⟨_, ⟨e2, _⟩ | ⟨x, _⟩⟩
        · exact absurd ((lkd _).1 e2) g2
        · exact e2
        · exfalso; apply x; right; simp only [if_true]; omega
      exact .inr ⟨rfl, g2, g3, fun _ => by rw [w]; exact gw, by omega, by rw [e5, r5]; rw [p, r2] at g6; omega⟩
  | stop p s2 q e =>
    rcases hr with ⟨g1, g2, g3, g4⟩ | ⟨g1, g2, g3, g4, g5, g6⟩
    · have gw := g2 (by omega)
      rw [h65.1, gw, p2, p3, p4]
      have eq : A.w (C.slot 0) = putSlot 2 a 1 ver := by rw [g1]; exact h0.W
      have a1 := aft_cas (who := who) (A := A) (a := C.slot 0) (o := putSlot 2 a 1 ver) (v := putSlot 1 a 1 (ver + 1)) hok (by omega)
      rw [if_pos eq] at a1
      refine .inl ⟨rfl, q, ?_, a1.n.trans h.n, fun x => by omega, .inr ⟨g4 p, lk' (.inl p), by rw [a1.w, g1], fun x => absurd e x, by omega, by rw [e, r0]; rw [p, r3] at g3; omega⟩⟩
      rw [show bb + (k + 1) = bb + k + 1 by omega]
      exact a1.ok (by decide) hok fun i => upd_cases (P := fun x => 0 ≤ x ∧ x < 18446744073709551616) (putSlot_in _ _ _ _) (hok.w i)
    · exact absurd p g5
  | lay p lk c e o =>
    have a1 := aft_store (who := who) (A := A) (a := slA m.a.w + 1 + 0) (v := putCell 9 false 0) hok (by omega)
    have hcl := h.cl (.inr (.inl p))
    have ew : ((A.by who).store (slA m.a.w + 1 + 0) (putCell 9 false 0)).w = upd A.w (a + 1) 9 := by
      rw [a1.w, mw (by omega), show a + 1 + 0 = a + 1 by omega]; rfl
    refine .inr ⟨rfl, ⟨o.1, by rw [o.2.2.1, hcl, h0.c]; exact z1⟩, a1.n.trans h.n, ?_⟩
    rw [ew]
    rcases hr with ⟨g1, g2, g3, g4⟩ | ⟨g1, g2, g3, g4, g5, g6⟩
    · have gw := g2 (by omega)
      rw [hcl, h0.c, z2, z3, gw, p4] at c
      refine .inr (.inl ⟨lk' (.inr p), ?_, by rw [g1]⟩)
      cases fz with
      | false => rfl
      | true => simp at c
    · exact .inr (.inr ⟨g2, g1, by rw [g3]⟩)
  | again p e q e2 =>
    rw [mw (by omega), show a + 1 + 0 = a + 1 by omega, h.cl (.inr (.inl p))] at e
    exact absurd env.2.2 e
  | look p lk l e o =>
    have hcl := h.cl (.inr (.inr p))
    have k1 := (lkd _).1 lk
    refine .inr ⟨rfl, ⟨by rw [o.1, if_neg (by omega)], by rw [o.2.2.1, hcl, h0.c]; exact z1⟩, h.n, ?_⟩
    rcases hr with ⟨g1, _⟩ | ⟨_, g2, _⟩
    · exact .inl ⟨k1, g1⟩
    · exact absurd k1 g2
  | else' p l e =>
    rw [h65.1, hlv.2.1, mw (by omega)] at e
    exact absurd rfl e
theorem eqFlat3 {K : Value → Prop} {a c : Int} {b : Bool} : xF (fBin .eql (.flat [true, false, true])) [.agg #[.int .i64 a, .bool b, .int .i64 c], .agg #[.int .i64 a, .bool b, .int .i64 c]] K = K (.bool true) := by
  simp [xF, fBin, eqV, eqCells, eqCell]
theorem andI1' {K : Value → Prop} {Q : EqK} {a : Int} : xF (fBin .and Q) [.int .i64 a, .int .i64 1] K = K (.int .i64 (a % 2)) := by simpa using xAndI (K := K) (Q := Q) (k := 1) (a := a) (by decide)
theorem law_AccessStops (σ : Mem) (a0 : Int) (w0 : (Lit.int .i64 a0).wf = true) (a1 : Int) (w1 : (Lit.int .i64 a1).wf = true) (fz : Bool) :
    s_law10_AccessStops [.int .i64 a0, .int .i64 a1, .bool fz] (fun v _ => v = .bool true) σ := by
  simp only [s_law10_AccessStops, w_law10_AccessStops, ruS, ruL, ruE, Nat.reduceAdd, reduceIte, Int.reduceLT, Int.reduceLE, Int.reduceEq, Int.reduceNeg, Int.reduceAdd, Int.reduceSub, Nat.reduceLeDiff, Nat.reduceLT]
  have hC : (cA 1 4 2 20).ok := cA_ok (by omega) (by omega) (by omega) (by omega)
  refine c_Arena (C := cA 1 4 2 20) hC rfl rfl rfl fun N A τ hN hF hA hE hfr => ?_
  have f1 : ∀ (x y z w : Value) (K : Value → Prop), xF (fFldV 1 1 false) [.agg #[x, y, z, w]] K = K y := fun _ _ _ _ K => nr rfl
  have g4 : ∀ {k : Nat} {x y z w : Int}, gStore 4 [.pointer (some ⟨k, 0, some 0⟩), .agg #[.int .i64 x, .int .i64 y, .int .i64 z, .int .i64 w]] [.int .i64 0, .int .i64 0, .int .i64 0, .int .i64 0] = some [.int .i64 x, .int .i64 y, .int .i64 z, .int .i64 w] := fun {_ _ _ _ _} => rfl
  have gU : ∀ {k : Nat} {x y z w : Int}, gStore 4 [.pointer (some ⟨k, 0, some 0⟩), .agg #[.int .i64 x, .int .u64 y, .int .i64 z, .int .i64 w]] [.int .i64 0, .int .u64 0, .int .i64 0, .int .i64 0] = some [.int .i64 x, .int .u64 y, .int .i64 z, .int .i64 w] := fun {_ _ _ _ _} => rfl
  have g3 : ∀ {k : Nat} {x y : Int} {b : Bool}, gStore 3 [.pointer (some ⟨k, 0, some 0⟩), .agg #[.int .i64 x, .bool b, .int .i64 y]] [.int .i64 0, .bool false, .int .i64 0] = some [.int .i64 x, .bool b, .int .i64 y] := fun {_ _ _ _} => rfl
  have p0 : ∀ {k : Nat} {x a b c d : Int}, gStore 1 [.pointer (some ⟨k, 0, some 0⟩), .int .i64 x] [.int .i64 a, .int .i64 b, .int .i64 c, .int .i64 d] = some [.int .i64 x, .int .i64 b, .int .i64 c, .int .i64 d] := fun {_ _ _ _ _ _} => rfl
  have p3 : ∀ {k : Nat} {x a b c d : Int}, gStore 1 [.pointer (some ⟨k, 3, some 0⟩), .int .i64 x] [.int .i64 a, .int .i64 b, .int .i64 c, .int .i64 d] = some [.int .i64 a, .int .i64 b, .int .i64 c, .int .i64 x] := fun {_ _ _ _ _ _} => rfl
  have b3 : ∀ (x y : Int) (b : Bool) (K : Value → Prop), xF (fBuild [(0, 1), (1, 1), (2, 1)] [.int .i64 0, .bool false, .int .i64 0] [0, 1, 2]) [.int .i64 x, .bool b, .int .i64 y] K = K (.agg #[.int .i64 x, .bool b, .int .i64 y]) := fun _ _ _ K => nr rfl
  have b9 : ∀ (x : Int) (K : Value → Prop), xF (fBuild [(0, 1), (1, 1), (2, 1)] [.int .i64 0, .bool false, .int .i64 0] [0]) [.int .i64 x] K = K (.agg #[.int .i64 x, .bool false, .int .i64 0]) := fun _ K => nr rfl
  have b4 : ∀ (x y z w : Int) (K : Value → Prop), xF (fBuild [(0, 1), (1, 1), (2, 1), (3, 1)] [.int .i64 0, .int .i64 0, .int .i64 0, .int .i64 0] [0, 1, 2, 3]) [.int .i64 x, .int .i64 y, .int .i64 z, .int .i64 w] K = K (.agg #[.int .i64 x, .int .i64 y, .int .i64 z, .int .i64 w]) := fun _ _ _ _ K => nr rfl
  have b5 : ∀ (x y : Int) (K : Value → Prop), xF (fBuild [(0, 1), (1, 1), (2, 1), (3, 1), (4, 1)] [.int .i64 0, .int .u64 0, .int .i64 0, .int .i64 0, .int .i64 0] [0, 1, 3]) [.int .i64 x, .int .u64 65536, .int .i64 y] K = K (.agg #[.int .i64 x, .int .u64 65536, .int .i64 0, .int .i64 y, .int .i64 0]) := fun _ _ K => nr rfl
  have s3 : ∀ x y z : Value, sub [x, y, z] 0 3 true = some (.agg #[x, y, z]) := fun _ _ _ => rfl
  simp only [c_awake10, gStoreE, w_law10_AccessStops_j1, w_law10_AccessStops_j1b, ruS, ruL, ruE, Nat.reduceAdd, reduceIte, Int.reduceLT, Int.reduceLE, Int.reduceEq, Int.reduceNeg, Int.reduceAdd, Int.reduceSub, Nat.reduceLeDiff, Nat.reduceLT]
  have hCS : (cA 1 4 2 20).S = 4 := rfl
  generalize hCe : cA 1 4 2 20 = C at *
  refine c_First hN hC hA hF (by decide) fun oV oS A2 τ2 hfst hoS hA2 k2 => ?_
  have hb0 : C.base 0 = 6 + C.T + 2 * C.S + 3 * C.C := by unfold Cf.base; omega
  have hT := hC.T
  have hCC := hC.C
  have hll := len_bd hC
  have hol := hfst.ol
  have habd := hol.bd
  have hP := hfst.pa
  have hcz := hfst.cz 0 (by decide) (by decide)
  have hW := hfst.W
  have hn := hfst.n
  generalize C.base 0 = a at *
  have esl : C.slot 0 = 6 + C.T := by unfold Cf.slot; omega
  have hPn := hP.n
  have hv : 0 ≤ a1 % 65536 ∧ a1 % 65536 ≤ 65535 := by omega
  obtain ⟨p1', p2', p3', p4'⟩ := sl_put (st := 1) (ad := a) (ge := 1) (ve := 0) (by decide) (by omega) (by decide) (by decide)
  have hsb : 0 ≤ C.slot 0 ∧ C.slot 0 < A2.n := by omega
  simp only [f1, c_Slot hC (Int.le_refl 0) (by decide), c_PeekA hN hA2 hsb.1 hsb.2, hW, c_wSlot (putSlot_in _ _ _ _).1 (putSlot_in _ _ _ _).2, g4, p0, p3, p1', p2', p3', p4', andI65535, sub4, c_PutSlot, ruS, ruL, ruE, Nat.reduceAdd, reduceIte, Int.reduceLT, Int.reduceLE, Int.reduceEq, Int.reduceNeg, Int.reduceAdd, Int.reduceSub, Nat.reduceLeDiff, Nat.reduceLT]
  generalize a1 % 65536 = ver at *
  refine c_StoreA hN hA2 hsb.1 hsb.2 hP.ok (by omega) (putSlot_in _ _ _ _) fun A3 τ3 aft ok3 hA3 _ => ?_
  have hkd : a0 % 2 = 0 ∨ a0 % 2 = 1 := by omega
  have main : ∀ A4 τ4, isA N A4 τ4 → S0 C a ver 1000002 fz A4 → w_law10_AccessStops_j2 (fun v _ => v = .bool true) [.int .i64 a0, .bool fz, .int .u64 65536, .int .i64 (C.slot 0)] [N.el C 0, [.int .i64 2, .int .i64 a, .int .i64 1, .int .i64 ver]] τ4 := by
    intro A4 τ4 hA4 h4
    simp only [w_law10_AccessStops_j2, w_law10_AccessStops_j2b, andI1', ruS, ruL, ruE, Nat.reduceAdd, reduceIte, Int.reduceLT, Int.reduceLE, Int.reduceEq, Int.reduceNeg, Int.reduceAdd, Int.reduceSub, Nat.reduceLeDiff, Nat.reduceLT]
    rw [IntWalk.i64_in (1 + a0 % 2) (by omega)]
    simp only [b5]
    refine c_Acc hN hC hA4 (SI C a ver fz (1 + a0 % 2) A4 1000002) (SD C a ver fz (1 + a0 % 2) A4 1000002) ⟨Lg.new hC, by simpa using h4.ok, rfl, fun x => (by rcases x with x | x | x <;> cases x), .inl ⟨rfl, fun x => absurd rfl x, rfl, fun x => by cases x⟩⟩ (fun k m A k0 k1 h => ?_) (fun m A h => ?_) (fun m A5 τ5 hD hA5 hK => ?_)
    · obtain ⟨g1, _, g2⟩ := h.step (who := 0) hC h4 (by decide) (by omega) ⟨k0, k1⟩
      refine ⟨g1, h.ok.w, by rw [h.n]; exact h4.n1, ?_⟩
      rcases g2 with ⟨d, h'⟩ | ⟨d, h'⟩
      · rw [if_neg (by rw [d]; decide)]; exact h'
      · rw [if_pos d]; exact h'
    · have := rk_bd m.a.pc
      rcases h.r with ⟨_, _, e, _⟩ | ⟨_, _, _, _, _, e⟩ <;> omega
    · have h4n := h4.n1
      have hDn := hD.n
      have s5 : C.slot 0 < A5.n := by omega
      have c5 : a + 1 < A5.n := by omega
      -- what is there at the end
      have fw : (1 + a0 % 2 = 1 ∧ A5.w (C.slot 0) = putSlot 2 a 1 ver ∧ A5.w (a + 1) = putCell (if fz = true then 3 else 0) fz ver) ∨ (1 + a0 % 2 ≠ 1 ∧ A5.w (a + 1) = 9 ∧ (fz = false ∧ A5.w (C.slot 0) = putSlot 2 a 1 ver ∨ fz = true ∧ A5.w (C.slot 0) = putSlot 1 a 1 (ver + 1))) := by
        rcases hD.w with ⟨q1, q2⟩ | ⟨q1, q2, q3⟩ | ⟨q1, q2, q3⟩
        · rw [q2]; exact .inl ⟨q1, h4.W, h4.c⟩
        · rw [q3, upd_same, upd_ne _ _ (by omega)]; exact .inr ⟨q1, rfl, .inl ⟨q2, h4.W⟩⟩
        · rw [q3, upd_same, upd_ne _ _ (by omega), upd_same]; exact .inr ⟨q1, rfl, .inr ⟨q2, rfl⟩⟩
      have hws : 0 ≤ A5.w (C.slot 0) ∧ A5.w (C.slot 0) < 18446744073709551616 := by
        rcases fw with ⟨_, q, _⟩ | ⟨_, _, ⟨_, q⟩ | ⟨_, q⟩⟩ <;> rw [q] <;> exact putSlot_in _ _ _ _
      have hwc : 0 ≤ A5.w (a + 1) ∧ A5.w (a + 1) < 18446744073709551616 := by
        rcases fw with ⟨_, _, q⟩ | ⟨_, q, _⟩ <;> rw [q]
        · exact putCell_in _ _ _
        · decide
      obtain ⟨u1, u2, u3, u4⟩ := sl_put (st := 2) (ad := a) (ge := 1) (ve := ver) (by decide) (by omega) (by decide) (by omega)
      obtain ⟨v1, v2, v3, v4⟩ := sl_put (st := 1) (ad := a) (ge := 1) (ve := ver + 1) (by decide) (by omega) (by decide) (by omega)
      obtain ⟨z1, z2, z3⟩ := ce_put (v := if fz = true then 3 else 0) (f := fz) (n := ver) (by split <;> decide) (by omega)
      have w9 : ceV 9 = 9 ∧ ceF 9 = false ∧ ceN 9 = 0 := by decide
      simp only [gU, ruS, ruL, ruE, Nat.reduceAdd, reduceIte, Int.reduceLT, Int.reduceLE, Int.reduceEq, Int.reduceNeg, Int.reduceAdd, Int.reduceSub, Nat.reduceLeDiff, Nat.reduceLT]
      rw [IntWalk.i64_in (a + 1) (by omega)]
      simp only [c_PeekA hN hA5 hsb.1 s5, c_wSlot hws.1 hws.2, c_PeekA hN hA5 (show 0 ≤ a + 1 by omega) c5, c_wCell hwc.1 hwc.2, g4, g3, ruS, ruL, ruE, Nat.reduceAdd, reduceIte, Int.reduceLT, Int.reduceLE, Int.reduceEq, Int.reduceNeg, Int.reduceAdd, Int.reduceSub, Nat.reduceLeDiff, Nat.reduceLT]
      have j3 : ∀ x : Int, (x = if fz = true then 3 else 0) → w_law10_AccessStops_j3 (fun v _ => v = .bool true) [.int .i64 a0, .bool fz, .int .i64 x] [[.int .i64 2, .int .i64 a, .int .i64 1, .int .i64 ver], [.int .i64 m.a.oE, .int .u64 m.a.oH, .int .i64 m.a.oV, .int .i64 m.a.oS], [.int .i64 (slS (A5.w (C.slot 0))), .int .i64 (slA (A5.w (C.slot 0))), .int .i64 (slG (A5.w (C.slot 0))), .int .i64 (slV (A5.w (C.slot 0)))], [.int .i64 (ceV (A5.w (a + 1))), .bool (ceF (A5.w (a + 1))), .int .i64 (ceN (A5.w (a + 1)))]] τ5 := by
        intro x hx
        have ev : m.a.oV = x := by rw [hD.e.2, hx]
        simp only [hD.e.1, ev, ne_eq, not_true_eq_false, andI1', w_law10_AccessStops_j3, w_law10_AccessStops_j3b, w_law10_AccessStops_j4, w_law10_AccessStops_j4b, sub4, ruS, ruL, ruE, Nat.reduceAdd, reduceIte, Int.reduceLT, Int.reduceLE, Int.reduceEq, Int.reduceNeg, Int.reduceAdd, Int.reduceSub, Nat.reduceLeDiff, Nat.reduceLT]
        rcases fw with ⟨q1, q2, q3⟩ | ⟨q1, q2, q3⟩
        · have e0 : a0 % 2 = 0 := by omega
          rw [q2, q3, u1, u2, u3, u4, z1, ← hx]
          simp only [e0, eqFlat4, ruS, ruL, ruE, Nat.reduceAdd, reduceIte, Int.reduceLT, Int.reduceLE, Int.reduceEq, Int.reduceNeg, Int.reduceAdd, Int.reduceSub, Nat.reduceLeDiff, Nat.reduceLT]
        · have e0 : ¬ a0 % 2 = 0 := by omega
          rcases q3 with ⟨rfl, q3⟩ | ⟨rfl, q3⟩
          · rw [q2, q3, u1, u2, u3, u4, w9.1, w9.2.1, w9.2.2]
            simp only [e0, eqFlat4, eqFlat3, s3, b9, ruS, ruL, ruE, Nat.reduceAdd, reduceIte, Int.reduceLT, Int.reduceLE, Int.reduceEq, Int.reduceNeg, Int.reduceAdd, Int.reduceSub, Nat.reduceLeDiff, Nat.reduceLT]
          · rw [q2, q3, v1, v2, v3, v4, w9.1, w9.2.1, w9.2.2]
            simp only [e0, ruS, ruL, ruE, Nat.reduceAdd, reduceIte, Int.reduceLT, Int.reduceLE, Int.reduceEq, Int.reduceNeg, Int.reduceAdd, Int.reduceSub, Nat.reduceLeDiff, Nat.reduceLT]
            rw [IntWalk.i64_in (ver + 1) (by omega)]
            simp only [b4, eqFlat4, eqFlat3, s3, b9, ruS, ruL, ruE, Nat.reduceAdd, reduceIte, Int.reduceLT, Int.reduceLE, Int.reduceEq, Int.reduceNeg, Int.reduceAdd, Int.reduceSub, Nat.reduceLeDiff, Nat.reduceLT]
      cases fz with
      | true => simp only [ruS, ruL, ruE, Nat.reduceAdd, reduceIte, Int.reduceLT, Int.reduceLE, Int.reduceEq, Int.reduceNeg, Int.reduceAdd, Int.reduceSub, Nat.reduceLeDiff, Nat.reduceLT]; exact j3 3 rfl
      | false => simp only [ruS, ruL, ruE, Nat.reduceAdd, reduceIte, Int.reduceLT, Int.reduceLE, Int.reduceEq, Int.reduceNeg, Int.reduceAdd, Int.reduceSub, Nat.reduceLeDiff, Nat.reduceLT]; exact j3 0 rfl
  have hA3w : A3.w (C.slot 0) = putSlot 2 a 1 ver ∧ (hdO (A3.w a) = false ∧ hdS (A3.w a) = 2) ∧ A3.w (a + 1) = 0 := by
    rw [aft.w]
    refine ⟨upd_same _ _ _, ?_, ?_⟩
    · rw [upd_ne _ _ (by omega)]; exact hol.hd
    · rw [upd_ne _ _ (by omega), ← hcz]; congr 1; omega
  have hn3 : A3.n = A2.n := aft.n
  cases fz with
  | false =>
    simp only [ruS, ruL, ruE, Nat.reduceAdd, reduceIte, Int.reduceLT, Int.reduceLE, Int.reduceEq, Int.reduceNeg, Int.reduceAdd, Int.reduceSub, Nat.reduceLeDiff, Nat.reduceLT]
    exact main A3 τ3 hA3 ⟨hv, ⟨by unfold Cf.base; omega, habd.2⟩, hA3w.1, hA3w.2.1, hA3w.2.2, ok_mono ok3 (by omega), by rw [hn3]; exact hPn, by rw [hn3]; omega⟩
  | true =>
    simp only [b3, c_PutCell, ruS, ruL, ruE, Nat.reduceAdd, reduceIte, Int.reduceLT, Int.reduceLE, Int.reduceEq, Int.reduceNeg, Int.reduceAdd, Int.reduceSub, Nat.reduceLeDiff, Nat.reduceLT]
    rw [IntWalk.i64_in (a + 1) (by omega)]
    refine c_StoreA hN hA3 (show 0 ≤ a + 1 by omega) (by omega) ok3 (by omega) (putCell_in _ _ _) fun A4 τ4 aft4 ok4 hA4 _ => ?_
    refine main A4 τ4 hA4 ⟨hv, ⟨by unfold Cf.base; omega, habd.2⟩, ?_, ?_, ?_, ok_mono ok4 (by omega), by rw [aft4.n, hn3]; exact hPn, by rw [aft4.n, hn3]; omega⟩
    · rw [aft4.w, upd_ne _ _ (by omega)]; exact hA3w.1
    · rw [aft4.w, upd_ne _ _ (by omega)]; exact hA3w.2.1
    · rw [aft4.w, upd_same]; rfl
end Go.Fl
