/- What the claim leans on, part 4: own readings of the program's functions, what they come to, laws of them. No condition. -/
import Derived.Test.YtedpfdkhebmocaaGreatZCompactStill3
namespace Go.Fl
open Go
set_option linter.unusedVariables false
set_option linter.unusedSimpArgs false
variable {N : Nm} {A B : Ar} {σ : Mem} {K : Value → Mem → Prop} {C : Cf} {who : Int}
def ceV (w : Int) : Int := w % 1099511627776
def ceF (w : Int) : Bool := decide (w / 9223372036854775808 = 1)
def ceN (w : Int) : Int := if ceF w = true then w / 1099511627776 % 4194304 else 0
def putCell (v : Int) (f : Bool) (n : Int) : Int := if f = true then cl v 1099511627775 + (8388608 + cl n 4194303) * 1099511627776 else cl v 1099511627775
theorem putCell_in (v : Int) (f : Bool) (n : Int) : 0 ≤ putCell v f n ∧ putCell v f n < 18446744073709551616 := by unfold putCell cl; split <;> omega
theorem or63c {K : Value → Prop} {Q : EqK} {a : Int} (h0 : 0 ≤ a) (h1 : a < 9223372036854775808) : xF (fBin .or Q) [.int .u64 9223372036854775808, .int .u64 a] K = K (.int .u64 (a + 9223372036854775808)) := by
 have := xOrG (K := K) (Q := Q) (s := 63) (a := a) (c := 1) h0 (by simpa using h1) (by decide) (by simp; omega)
 have e : xF (fBin .or Q) [.int .u64 9223372036854775808, .int .u64 a] K = xF (fBin .or Q) [.int .u64 a, .int .u64 (1 * 2 ^ 63)] K := by
  simp only [xF, fBin, isSh, binI, Bool.false_eq_true, if_false, if_true]
  rw [BitVec.or_comm]; rfl
 rw [e, this]; rfl
theorem c_PutCell {v n : Int} {f : Bool} : s_dd [.agg #[.int .i64 v, .bool f, .int .i64 n]] K σ = K (.int .u64 (putCell v f n)) σ := by
 simp only [s_dd, w_dd, w_dd_j1, w_dd_j1b, ruS, ruL, ruX, Nat.reduceAdd, reduceIte, Int.reduceLT, Int.reduceLE, Int.reduceEq, Int.reduceNeg, Int.reduceAdd, Int.reduceSub, Nat.reduceLeDiff]
 have h1 := @cl_le v 1099511627775
 have h2 := @cl_nn v 1099511627775 (by decide)
 have h3 := @cl_le n 4194303
 have h4 := @cl_nn n 4194303 (by decide)
 rw [c_fit (by decide) (by decide)]
 cases f
 ·simp only [xIfB, ruS, ruL, ruX, Nat.reduceAdd, reduceIte, Int.reduceLT, Int.reduceLE, Int.reduceEq, Int.reduceNeg, Int.reduceAdd, Int.reduceSub, Nat.reduceLeDiff]
  unfold putCell; simp
 ·simp only [xIfB, ruS, ruL, ruX, Nat.reduceAdd, reduceIte, Int.reduceLT, Int.reduceLE, Int.reduceEq, Int.reduceNeg, Int.reduceAdd, Int.reduceSub, Nat.reduceLeDiff]
  rw [c_fit (by decide) (by decide), shl40 h4 (by omega), or63c (by omega) (by omega), show cl n 4194303 * 1099511627776 + 9223372036854775808 = (8388608 + cl n 4194303) * 1099511627776 by omega, or40 h2 (by omega) (by omega) (by omega)]
  unfold putCell; simp
theorem c_wCell {w : Int} (h0 : 0 ≤ w) (h1 : w < 18446744073709551616) : s_c9 [.int .u64 w] K σ = K (.agg #[.int .i64 (ceV w), .bool (ceF w), .int .i64 (ceN w)]) σ := by
 have b : ∀ (a : Int) (e : Bool) (K : Value → Prop), xF (fBuild [(0, 1), (1, 1), (2, 1)] [.int .i64 0, .bool false, .int .i64 0] [0, 1]) [.int .i64 a, .bool e] K = K (.agg #[.int .i64 a, .bool e, .int .i64 0]) := fun _ _ K => nr rfl
 simp only [s_c9, w_c9, w_c9_j1, w_c9_j1b, gAlloc_s, xCs, ruS, Nat.reduceAdd, reduceIte, Int.reduceLT, Int.reduceLE, Int.reduceEq, Int.reduceNeg, Int.reduceAdd, Int.reduceSub]
 rw [and40 h0 h1]
 simp only [ruS, Nat.reduceAdd, reduceIte, Int.reduceLT, Int.reduceLE, Int.reduceEq, Int.reduceNeg, Int.reduceAdd, Int.reduceSub]
 rw [shr63 h0]
 simp only [ruS, Nat.reduceAdd, reduceIte, Int.reduceLT, Int.reduceLE, Int.reduceEq, Int.reduceNeg, Int.reduceAdd, Int.reduceSub]
 rw [IntWalk.i64_in (w % 1099511627776) (by omega), b]
 by_cases e : w / 9223372036854775808 = 1
 ·have hF : ceF w = true := decide_eq_true e
  simp only [e, ruS, ruL, ruX, Nat.reduceAdd, reduceIte, Int.reduceLT, Int.reduceLE, Int.reduceEq, Int.reduceNeg, Int.reduceAdd, Int.reduceSub, Nat.reduceLeDiff]
  rw [shr40 h0, and22 (by omega) (by omega)]
  simp only [ruS, ruL, ruX, Nat.reduceAdd, reduceIte, Int.reduceLT, Int.reduceLE, Int.reduceEq, Int.reduceNeg, Int.reduceAdd, Int.reduceSub, Nat.reduceLeDiff]
  rw [IntWalk.i64_in (w / 1099511627776 % 4194304) (by omega), hF]
  unfold ceN ceV; rw [hF]; rfl
 ·have hF : ceF w = false := decide_eq_false e
  simp only [e, ruS, ruL, ruX, Nat.reduceAdd, reduceIte, Int.reduceLT, Int.reduceLE, Int.reduceEq, Int.reduceNeg, Int.reduceAdd, Int.reduceSub, Nat.reduceLeDiff]
  rw [hF]
  unfold ceN ceV; rw [hF]; rfl
def hdOk (h : Int) : Bool := decide (h / 4294967296 = 0 ∧ h / 65536 ≠ 0)
def hdSl (h : Int) : Int := if hdOk h = true then h % 65536 else 0
def hdGe (h : Int) : Int := if hdOk h = true then h / 65536 else 0
theorem hdSl_bd {h : Int} (h0 : 0 ≤ h) : (0 ≤ hdSl h ∧ hdSl h ≤ 65535) ∧ 0 ≤ hdGe h ∧ hdGe h ≤ 65535 := by
 unfold hdSl hdGe hdOk
 by_cases e : h / 4294967296 = 0 ∧ h / 65536 ≠ 0
 ·simp only [e, ne_eq, not_false_eq_true, and_self, decide_true, if_true]; omega
 ·simp [e]
theorem c_wHandleG {w : Int} (h0 : 0 ≤ w) (h1 : w < 18446744073709551616) : s_db [.int .u64 w] K σ = K (.tuple #[.agg #[.int .i64 (hdSl w), .int .i64 (hdGe w)], .bool (hdOk w)]) σ := by
 by_cases e1 : w / 4294967296 = 0
 ·by_cases e2 : w / 65536 = 0
  ·have hO : hdOk w = false := decide_eq_false (by simp [e2])
   have b : ∀ (K : Value → Prop), xF (fBuild [(0, 1), (1, 1)] [.int .i64 0, .int .i64 0] []) [] K = K (.agg #[.int .i64 0, .int .i64 0]) := fun K => nr rfl
   simp only [s_db, w_db, w_db_j1, w_db_j1b, gAlloc_s, xCs, ruS, Nat.reduceAdd, reduceIte, Int.reduceLT, Int.reduceLE, Int.reduceEq, Int.reduceNeg, Int.reduceAdd, Int.reduceSub]
   rw [shr32 h0, e1]
   simp only [ruS, Nat.reduceAdd, reduceIte, Int.reduceLT, Int.reduceLE, Int.reduceEq, Int.reduceNeg, Int.reduceAdd, Int.reduceSub]
   rw [shr16 h0]
   simp only [e2, b, ruS, ruL, ruX, Nat.reduceAdd, reduceIte, Int.reduceLT, Int.reduceLE, Int.reduceEq, Int.reduceNeg, Int.reduceAdd, Int.reduceSub, Nat.reduceLeDiff]
   unfold hdSl hdGe; rw [hO]; rfl
  ·have hO : hdOk w = true := decide_eq_true ⟨e1, e2⟩
   rw [c_wHandle h0 (by omega) (by omega)]
   unfold hdSl hdGe; rw [hO]; rfl
 ·have hO : hdOk w = false := decide_eq_false (by simp [e1])
  have b : ∀ (K : Value → Prop), xF (fBuild [(0, 1), (1, 1)] [.int .i64 0, .int .i64 0] []) [] K = K (.agg #[.int .i64 0, .int .i64 0]) := fun K => nr rfl
  simp only [s_db, w_db, w_db_j1, w_db_j1b, gAlloc_s, xCs, ruS, Nat.reduceAdd, reduceIte, Int.reduceLT, Int.reduceLE, Int.reduceEq, Int.reduceNeg, Int.reduceAdd, Int.reduceSub]
  rw [shr32 h0]
  simp only [e1, b, ne_eq, not_false_eq_true, ruS, ruL, ruX, Nat.reduceAdd, reduceIte, Int.reduceLT, Int.reduceLE, Int.reduceEq, Int.reduceNeg, Int.reduceAdd, Int.reduceSub, Nat.reduceLeDiff]
  unfold hdSl hdGe; rw [hO]; rfl
structure Hl where
 slot : Int
 w : Int
 size : Int
 i : Int
 cell : Int
 read : Bool
 won : Bool
def Hl.l (h : Hl) : List Value := [.int .i64 h.slot, .int .u64 h.w, .int .i64 h.size, .int .i64 h.i, .int .u64 h.cell, .bool h.read, .bool h.won]
def Hl.new (s w z : Int) : Hl := ⟨s, w, z, 0, 0, false, false⟩
def Hl.a (h : Hl) : Int := slA h.w + 1 + h.i
def Hl.next (C : Cf) (h : Hl) : Int := if C.G ≤ slG h.w then putSlot 3 0 (slG h.w) 0 else putSlot 0 0 (slG h.w + 1) 0
def Hl.step (C : Cf) (who : Int) (A : Ar) (h : Hl) : Bool × Hl × Ar :=
 if h.size ≤ h.i then (true, { h with won := decide (A.w (C.slot h.slot) = h.w) }, (A.by who).cas (C.slot h.slot) h.w (h.next C))
 else if h.read = false then
  if ceF (A.w h.a) = true ∧ ceN (A.w h.a) = slV h.w then (false, { h with cell := A.w h.a, read := false, i := h.i + 1 }, (A.by who).load h.a)
  else (false, { h with cell := A.w h.a, read := true }, (A.by who).load h.a)
 else if A.w h.a = h.cell then (false, { h with read := false, i := h.i + 1 }, (A.by who).cas h.a h.cell (putCell (ceV h.cell) true (slV h.w)))
 else (false, { h with read := false }, (A.by who).cas h.a h.cell (putCell (ceV h.cell) true (slV h.w)))
structure Hl.fit (C : Cf) (h : Hl) : Prop where
 slot : 0 ≤ h.slot ∧ h.slot < C.S
 w : 0 ≤ h.w ∧ h.w < 18446744073709551616
 cell : 0 ≤ h.cell ∧ h.cell < 18446744073709551616
 size : h.size ≤ 65535
 i : 0 ≤ h.i ∧ h.i ≤ 65536
 at' : h.i < h.size → slA h.w + 1 + h.i < C.len
theorem c_NewHelp {s w z : Int} (hk : ∀ id τ, σ.get id = none → τ.get id = some ⟨(Hl.new s w z).l, true⟩ → Ext σ τ → K (.pointer (some ⟨id, 0, none⟩)) τ) : s_a5 [.int .i64 s, .int .u64 w, .int .i64 z] K σ := by
 have b : ∀ K : Value → Prop, xF (fBuild [(0, 1), (1, 1), (2, 1), (3, 1), (4, 1), (5, 1), (6, 1)] [.int .i64 0, .int .u64 0, .int .i64 0, .int .i64 0, .int .u64 0, .bool false, .bool false] [0, 1, 2]) [.int .i64 s, .int .u64 w, .int .i64 z] K =
   K (.agg #[.int .i64 s, .int .u64 w, .int .i64 z, .int .i64 0, .int .u64 0, .bool false, .bool false]) := fun K => nr rfl
 simp only [s_a5, w_a5, b, ruS, Nat.reduceAdd, reduceIte, Int.reduceLT, Int.reduceLE, Int.reduceEq, Int.reduceNeg, Int.reduceAdd, Int.reduceSub]
 exact hBox_i (cs := [_, _, _, _, _, _, _]) rfl hk
theorem c_Help_Step (hN : N.ok) (hC : C.ok) (hA : isA N A σ) {p : Nat} {pre post : List Value} {t : Hl} (hp : σ.get p = some ⟨pre ++ t.l ++ post, true⟩) (hd : p ∉ N.l)
  (hw : ∀ i, 0 ≤ A.w i ∧ A.w i < 18446744073709551616) (hn : C.len ≤ A.n) (hf : t.fit C)
  (hk : ∀ τ, isA N (t.step C who A).2.2 τ → τ.get p = some ⟨pre ++ (t.step C who A).2.1.l ++ post, true⟩ → Keep (p :: N.l) σ τ → K (.bool (t.step C who A).1) τ) :
  s_a2 [.pointer (some ⟨p, pre.length, none⟩), N.env C who] K σ := by
 rw [hA.obj hp]
 have hl := len_bd hC
 have hT := hC.T
 have hS := hC.S
 have hCC := hC.C
 obtain ⟨f1, f2, f3, f4, f5, f6⟩ := hf
 have hch : C.chunk C.C = 6 + C.T + 2 * C.S + 3 * C.C := rfl
 have hsb : 0 ≤ C.slot t.slot ∧ C.slot t.slot < A.n := by unfold Cf.slot; omega
 have hA1 := slA_bd t.w
 have hG1 := slG_bd t.w
 have hV1 := slV_bd t.w
 have g4 : ∀ (k : Nat) (x y z w x' y' z' w' : Int), gStore 4 [.pointer (some ⟨k, 0, some 0⟩), .agg #[.int .i64 x, .int .i64 y, .int .i64 z, .int .i64 w]] [.int .i64 x', .int .i64 y', .int .i64 z', .int .i64 w'] = some [.int .i64 x, .int .i64 y, .int .i64 z, .int .i64 w] := fun _ _ _ _ _ _ _ _ _ => rfl
 have g3 : ∀ (k : Nat) (x z : Int) (y : Bool) (x' z' : Int) (y' : Bool), gStore 3 [.pointer (some ⟨k, 0, some 0⟩), .agg #[.int .i64 x, .bool y, .int .i64 z]] [.int .i64 x', .bool y', .int .i64 z'] = some [.int .i64 x, .bool y, .int .i64 z] := fun _ _ _ _ _ _ _ => rfl
 have b02 : ∀ (x y : Int) (K : Value → Prop), xF (fBuild [(0, 1), (1, 1), (2, 1), (3, 1)] [.int .i64 0, .int .i64 0, .int .i64 0, .int .i64 0] [0, 2]) [.int .i64 x, .int .i64 y] K = K (.agg #[.int .i64 x, .int .i64 0, .int .i64 y, .int .i64 0]) := fun _ _ K => nr rfl
 have b3 : ∀ (x y : Int) (z : Bool) (K : Value → Prop), xF (fBuild [(0, 1), (1, 1), (2, 1)] [.int .i64 0, .bool false, .int .i64 0] [0, 1, 2]) [.int .i64 x, .bool z, .int .i64 y] K = K (.agg #[.int .i64 x, .bool z, .int .i64 y]) := fun _ _ _ K => nr rfl
 simp only [s_a2, w_a2, w_a2_j1, w_a2_j1b, Hl.l, ldO hd, ruS, ruL, ruE, Nat.reduceAdd, reduceIte, Int.reduceLT, Int.reduceLE, Int.reduceEq, Int.reduceNeg, Int.reduceAdd, Int.reduceSub, Nat.reduceLeDiff, Nat.reduceLT]
 rw [c_wSlot f2.1 f2.2]
 simp only [g4, ldO hd, ruS, ruL, ruE, Nat.reduceAdd, reduceIte, Int.reduceLT, Int.reduceLE, Int.reduceEq, Int.reduceNeg, Int.reduceAdd, Int.reduceSub, Nat.reduceLeDiff, Nat.reduceLT]
 rw [IntWalk.i64_in (slA t.w + 1) (by omega), IntWalk.i64_in (slA t.w + 1 + t.i) (by omega), c_wCell f3.1 f3.2]
 simp only [g3, ldO hd, ruS, ruL, ruE, Nat.reduceAdd, reduceIte, Int.reduceLT, Int.reduceLE, Int.reduceEq, Int.reduceNeg, Int.reduceAdd, Int.reduceSub, Nat.reduceLeDiff, Nat.reduceLT]
 unfold Hl.step at hk
 by_cases c0 : t.size ≤ t.i
 ·rw [if_pos c0] at hk
  simp only [c0, b02, g4, ruS, ruL, ruE, Nat.reduceAdd, reduceIte, Int.reduceLT, Int.reduceLE, Int.reduceEq, Int.reduceNeg, Int.reduceAdd, Int.reduceSub, Nat.reduceLeDiff, Nat.reduceLT]
  rw [IntWalk.i64_in (slG t.w + 1) (by omega)]
  have e : ∀ v, t.next C = v → (K (.bool true) (putA N ((A.by who).cas (C.slot t.slot) t.w v) (σ.set p ⟨pre ++ ({ t with won := decide (A.w (C.slot t.slot) = t.w) } : Hl).l ++ post, true⟩))) := by
   rintro v rfl; exact behind hN hd hk
  by_cases q : C.G ≤ slG t.w
  ·have := e _ (if_pos q)
   simp only [q, b02, g4, w_a2_j2, w_a2_j2b, ldO hd, ruS, ruL, ruE, Nat.reduceAdd, reduceIte, Int.reduceLT, Int.reduceLE, Int.reduceEq, Int.reduceNeg, Int.reduceAdd, Int.reduceSub, Nat.reduceLeDiff, Nat.reduceLT]
   rw [c_Slot hC f1.1 (by omega)]
   simp only [ldO hd, sub4, ruS, ruL, ruE, Nat.reduceAdd, reduceIte, Int.reduceLT, Int.reduceLE, Int.reduceEq, Int.reduceNeg, Int.reduceAdd, Int.reduceSub, Nat.reduceLeDiff, Nat.reduceLT]
   rw [c_PutSlot, c_Cas hN hsb.1 hsb.2]
   simp only [stOb hd, ruS, ruL, ruE, Nat.reduceAdd, reduceIte, Int.reduceLT, Int.reduceLE, Int.reduceEq, Int.reduceNeg, Int.reduceAdd, Int.reduceSub, Nat.reduceLeDiff, Nat.reduceLT]
   exact this
  ·have := e _ (if_neg q)
   simp only [q, w_a2_j2, w_a2_j2b, ldO hd, ruS, ruL, ruE, Nat.reduceAdd, reduceIte, Int.reduceLT, Int.reduceLE, Int.reduceEq, Int.reduceNeg, Int.reduceAdd, Int.reduceSub, Nat.reduceLeDiff, Nat.reduceLT]
   rw [c_Slot hC f1.1 (by omega)]
   simp only [ldO hd, sub4, ruS, ruL, ruE, Nat.reduceAdd, reduceIte, Int.reduceLT, Int.reduceLE, Int.reduceEq, Int.reduceNeg, Int.reduceAdd, Int.reduceSub, Nat.reduceLeDiff, Nat.reduceLT]
   rw [c_PutSlot, c_Cas hN hsb.1 hsb.2]
   simp only [stOb hd, ruS, ruL, ruE, Nat.reduceAdd, reduceIte, Int.reduceLT, Int.reduceLE, Int.reduceEq, Int.reduceNeg, Int.reduceAdd, Int.reduceSub, Nat.reduceLeDiff, Nat.reduceLT]
   exact this
 ·rw [if_neg c0] at hk
  have hat := f6 (by omega)
  have hwa := hw (slA t.w + 1 + t.i)
  cases c1 : t.read with
  | false =>
   rw [if_pos c1] at hk
   simp only [c0, c1, ldO hd, ruS, ruL, ruE, Nat.reduceAdd, reduceIte, Int.reduceLT, Int.reduceLE, Int.reduceEq, Int.reduceNeg, Int.reduceAdd, Int.reduceSub, Nat.reduceLeDiff, Nat.reduceLT]
   rw [c_Load hN (by omega) (by omega)]
   simp only [stOi hd, ldO hd, ruS, ruL, ruE, Nat.reduceAdd, reduceIte, Int.reduceLT, Int.reduceLE, Int.reduceEq, Int.reduceNeg, Int.reduceAdd, Int.reduceSub, Nat.reduceLeDiff, Nat.reduceLT]
   rw [c_wCell hwa.1 hwa.2]
   simp only [g3, ruS, ruL, ruE, Nat.reduceAdd, reduceIte, Int.reduceLT, Int.reduceLE, Int.reduceEq, Int.reduceNeg, Int.reduceAdd, Int.reduceSub, Nat.reduceLeDiff, Nat.reduceLT]
   change ∀ τ, _ at hk
   by_cases q1 : ceF (A.w t.a) = true
   ·by_cases q2 : ceN (A.w t.a) = slV t.w
    ·rw [if_pos ⟨q1, q2⟩] at hk
     have q1' : ceF (A.w (slA t.w + 1 + t.i)) = true := q1
     have q2' : ceN (A.w (slA t.w + 1 + t.i)) = slV t.w := q2
     simp only [q1', q2', ne_eq, not_true_eq_false, w_a2_j1, w_a2_j1b, w_a2_j3, w_a2_j3b, stOb hd, stOi hd, ldO hd, ruS, ruL, ruE, Nat.reduceAdd, reduceIte, Int.reduceLT, Int.reduceLE, Int.reduceEq, Int.reduceNeg, Int.reduceAdd, Int.reduceSub, Nat.reduceLeDiff, Nat.reduceLT]
     rw [IntWalk.i64_in (t.i + 1) (by omega)]
     exact behind hN hd hk
    ·rw [if_neg (fun h => q2 h.2)] at hk
     have q1' : ceF (A.w (slA t.w + 1 + t.i)) = true := q1
     have q2' : ¬ ceN (A.w (slA t.w + 1 + t.i)) = slV t.w := q2
     simp only [q1', q2', ne_eq, not_false_eq_true, w_a2_j1, w_a2_j1b, w_a2_j3, w_a2_j3b, stOb hd, stOi hd, ldO hd, ruS, ruL, ruE, Nat.reduceAdd, reduceIte, Int.reduceLT, Int.reduceLE, Int.reduceEq, Int.reduceNeg, Int.reduceAdd, Int.reduceSub, Nat.reduceLeDiff, Nat.reduceLT]
     exact behind hN hd hk
   ·rw [if_neg (fun h => q1 h.1)] at hk
    have q1' : ceF (A.w (slA t.w + 1 + t.i)) = false := by simpa [Hl.a] using q1
    simp only [q1', w_a2_j1, w_a2_j1b, w_a2_j3, w_a2_j3b, stOb hd, stOi hd, ldO hd, ruS, ruL, ruE, Nat.reduceAdd, reduceIte, Int.reduceLT, Int.reduceLE, Int.reduceEq, Int.reduceNeg, Int.reduceAdd, Int.reduceSub, Nat.reduceLeDiff, Nat.reduceLT]
    exact behind hN hd hk
  | true =>
   rw [if_neg (by rw [c1]; decide)] at hk
   simp only [c0, c1, stOb hd, ldO hd, b3, ruS, ruL, ruE, Nat.reduceAdd, reduceIte, Int.reduceLT, Int.reduceLE, Int.reduceEq, Int.reduceNeg, Int.reduceAdd, Int.reduceSub, Nat.reduceLeDiff, Nat.reduceLT]
   rw [c_PutCell, c_Cas hN (by omega) (by omega)]
   by_cases q : A.w t.a = t.cell
   ·rw [if_pos q] at hk
    have q' : A.w (slA t.w + 1 + t.i) = t.cell := q
    simp only [q', w_a2_j1, w_a2_j1b, stOi hd, ldO hd, ruS, ruL, ruE, Nat.reduceAdd, reduceIte, Int.reduceLT, Int.reduceLE, Int.reduceEq, Int.reduceNeg, Int.reduceAdd, Int.reduceSub, Nat.reduceLeDiff, Nat.reduceLT]
    rw [IntWalk.i64_in (t.i + 1) (by omega)]
    exact behind hN hd hk
   ·rw [if_neg q] at hk
    have q' : ¬ A.w (slA t.w + 1 + t.i) = t.cell := q
    simp only [q', w_a2_j1, w_a2_j1b, ruS, ruL, ruE, Nat.reduceAdd, reduceIte, Int.reduceLT, Int.reduceLE, Int.reduceEq, Int.reduceNeg, Int.reduceAdd, Int.reduceSub, Nat.reduceLeDiff, Nat.reduceLT]
    exact behind hN hd hk
end Go.Fl
namespace Go.Fl
open Go
set_option linter.unusedVariables false
set_option linter.unusedSimpArgs false
variable {N : Nm} {A B : Ar} {σ : Mem} {K : Value → Mem → Prop} {C : Cf} {who : Int}
def ofC (C : Cf) (a : Int) : Int := if C.base 0 ≤ a ∧ a < C.len then (a - C.base 0) / C.W else -1
theorem c_Of (hC : C.ok) {a : Int} (ha : a < 9223372036854775808) : s_b1 [C.v, .int .i64 a] K σ = K (.int .i64 (ofC C a)) σ := by
 have hW := hC.W
 have hl := len_bd hC
 have hT := hC.T
 have hS := hC.S
 have hCC := hC.C
 have hb : C.base 0 = 6 + C.T + 2 * C.S + 3 * C.C := by unfold Cf.base; omega
 simp only [s_b1, w_b1, w_b1_j1, w_b1_j1b, c_Base hC (Int.le_refl 0) (by decide : (0 : Int) ≤ 65536), c_lLen hC, ruS, ruL, ruE, Nat.reduceAdd, reduceIte, Int.reduceLT, Int.reduceLE, Int.reduceEq, Int.reduceNeg, Int.reduceAdd, Int.reduceSub, Nat.reduceLeDiff, Nat.reduceLT]
 unfold ofC
 by_cases c1 : a < C.base 0
 ·simp only [c1, ruS, ruL, ruE, Nat.reduceAdd, reduceIte, Int.reduceLT, Int.reduceLE, Int.reduceEq, Int.reduceNeg, Int.reduceAdd, Int.reduceSub, Nat.reduceLeDiff, Nat.reduceLT]
  rw [if_neg (by omega)]
 ·by_cases c2 : C.len ≤ a
  ·simp only [c1, c2, ruS, ruL, ruE, Nat.reduceAdd, reduceIte, Int.reduceLT, Int.reduceLE, Int.reduceEq, Int.reduceNeg, Int.reduceAdd, Int.reduceSub, Nat.reduceLeDiff, Nat.reduceLT]
   rw [if_neg (by omega)]
  ·simp only [c1, c2, xQuo (show C.W ≠ 0 by omega), ruS, ruL, ruE, Nat.reduceAdd, reduceIte, Int.reduceLT, Int.reduceLE, Int.reduceEq, Int.reduceNeg, Int.reduceAdd, Int.reduceSub, Nat.reduceLeDiff, Nat.reduceLT]
   rw [if_pos (by omega), IntWalk.i64_in (a - C.base 0) (by omega), Int.tdiv_eq_ediv_of_nonneg (by omega)]
   have := Int.ediv_le_self C.W (show 0 ≤ a - C.base 0 by omega)
   have := Int.ediv_nonneg (show 0 ≤ a - C.base 0 by omega) (show 0 ≤ C.W by omega)
   rw [IntWalk.i64_in _ (by omega)]
theorem room_0 : roomOf 0 = 3 := rfl
end Go.Fl
namespace Go.Fl
open Go
set_option linter.unusedVariables false
set_option linter.unusedSimpArgs false
variable {N : Nm} {A B : Ar} {σ : Mem} {K : Value → Mem → Prop} {C : Cf} {who : Int}
theorem w0_open (hC : C.ok) {c : Int} (h0 : 0 ≤ c) (h1 : c ≤ 3) : C.w0 (2 + c) = 0 := by
 have := hC.T; have := hC.S
 unfold Cf.w0 Cf.fr Cf.slot
 rw [if_neg (by omega), if_neg (by omega), if_neg (by omega)]
theorem w0_chunk (hC : C.ok) {j : Int} (h0 : 0 ≤ j) : C.w0 (C.chunk j) = 0 := by
 have := hC.T; have := hC.S
 unfold Cf.w0 Cf.fr Cf.slot Cf.chunk
 rw [if_neg (by omega), if_neg (by omega), if_neg (by omega)]
structure Pa (C : Cf) (A : Ar) (b : Int) : Prop where
 ok : A.ok b
 n : C.len ≤ A.n
 op : ∀ c, 0 ≤ c → c ≤ 3 → A.w (2 + c) ≤ C.C
theorem Pa.mono {b b' : Int} (h : Pa C A b) (hb : b ≤ b') : Pa C A b' := ⟨⟨h.ok.w, ⟨h.ok.s.1, by have := h.ok.s.2; omega⟩, h.ok.t⟩, h.n, h.op⟩
structure Go1 (C : Cf) (A : Ar) (p : Pl) (r : Bool × Pl × Ar) (a : Int) : Prop where
 wh : a = 2 + p.cls ∨ a = C.chunk p.at'
 la : r.2.2.la = a
 s : r.2.2.s = A.s + 1
 n : r.2.2.n = A.n
 w : ∀ i, i ≠ a → r.2.2.w i = A.w i
 cls : r.2.1.cls = p.cls
theorem aw {w : Int → Int} {a v i : Int} {c : Prop} [Decidable c] (h : i ≠ a) : (if c then upd w a v else w) i = w i := by
 split
 ·exact upd_ne _ _ h
 ·rfl
theorem Pl.go (hC : C.ok) {b : Int} (hb : b < 4611686018427387904) (h : Pa C A b) {p : Pl} (hf : p.fit C) :
  Pa C (p.step C who A).2.2 (b + 1) ∧ ((p.step C who A).1 = false → (p.step C who A).2.1.fit C) ∧ ∃ a, Go1 C A p (p.step C who A) a := by
 obtain ⟨ok, n, op⟩ := h
 obtain ⟨f1, f2, f3, f4⟩ := hf
 have hC3 := hC.C
 have hT := hC.T
 have hS := hC.S
 have hcb := chunk_bd hC f3.1 f3.2 n
 have hwo := ok.w (2 + p.cls)
 have hwc := ok.w (C.chunk p.at')
 have hoo := op p.cls f1.1 f1.2
 have hwr : IntKind.i64.wrap (A.w (2 + p.cls)) = A.w (2 + p.cls) := IntWalk.i64_in _ (by omega)
 have hne : ∀ c, 0 ≤ c → c ≤ 3 → 2 + c ≠ C.chunk p.at' := fun c c0 c3 => by unfold Cf.chunk; omega
 have L : ∀ a, Pa C ((A.by who).load a) (b + 1) := fun a =>
  ⟨(aft_load ok (by omega)).ok (by decide) ok ok.w, n, op⟩
 have Cs : ∀ o v, 0 ≤ v ∧ v < 18446744073709551616 → Pa C ((A.by who).cas (C.chunk p.at') o v) (b + 1) := by
  intro o v hv
  have a1 := aft_cas (who := who) (a := C.chunk p.at') (o := o) (v := v) ok (by omega)
  refine ⟨a1.ok (by decide) ok (fun i => ?_), by rw [a1.n]; exact n, fun c c0 c3 => ?_⟩
  ·split
   ·exact upd_cases (P := fun x => 0 ≤ x ∧ x < 18446744073709551616) hv (ok.w i)
   ·exact ok.w i
  ·rw [a1.w, aw (hne c c0 c3)]; exact op c c0 c3
 have nx : ∀ q : Pl, 0 ≤ q.cls ∧ q.cls ≤ 3 → 0 ≤ q.opn ∧ q.opn < 18446744073709551616 → 0 ≤ q.at' → 0 ≤ q.w ∧ q.w < 18446744073709551616 → (q.next C).1 = false → (q.next C).2.fit C := by
  intro q a b c d e
  have e' : ¬ C.C ≤ q.at' + 1 := of_decide_eq_false e
  exact ⟨a, b, ⟨by show 0 ≤ q.at' + 1; omega, by show q.at' + 1 < C.C; omega⟩, d⟩
 unfold Pl.step
 by_cases c0 : p.pc = 0
 ·rw [if_pos c0]
  dsimp only
  rw [hwr]
  refine ⟨L _, fun _ => ?_, 2 + p.cls, ⟨.inl rfl, rfl, (aft_load (who := who) (a := 2 + p.cls) ok (by omega)).s, rfl, fun _ _ => rfl, ?_⟩⟩
  ·split
   ·exact ⟨f1, hwo, ⟨Int.le_refl 0, by show (0 : Int) < C.C; omega⟩, f4⟩
   ·exact ⟨f1, hwo, ⟨by dsimp only; omega, by dsimp only; omega⟩, f4⟩
  ·split <;> rfl
 rw [if_neg c0]
 by_cases c1 : p.pc = 1
 ·rw [if_pos c1]
  refine ⟨L _, fun _ => ?_, C.chunk p.at', ⟨.inr rfl, rfl, (aft_load (who := who) (a := C.chunk p.at') ok (by omega)).s, rfl, fun _ _ => rfl, ?_⟩⟩
  ·dsimp only
   split
   ·exact ⟨f1, f2, ⟨Int.le_refl 0, by show (0 : Int) < C.C; omega⟩, hwc⟩
   ·exact ⟨f1, f2, f3, hwc⟩
  ·dsimp only; split <;> rfl
 rw [if_neg c1]
 by_cases c2 : p.pc = 2
 ·rw [if_pos c2]
  have a1 := fun v => aft_cas (who := who) (a := C.chunk p.at') (o := p.w) (v := v) ok (by omega)
  refine ⟨Cs _ _ (putChunk_in _ _ _ _), fun _ => ?_, C.chunk p.at', ⟨.inr rfl, cas_la, (a1 _).s, (a1 _).n, fun i hi => by rw [(a1 _).w, aw hi], ?_⟩⟩
  ·dsimp only; split <;> exact ⟨f1, f2, f3, f4⟩
  ·dsimp only; split <;> rfl
 rw [if_neg c2]
 by_cases c3 : p.pc = 3
 ·rw [if_pos c3]
  dsimp only
  split
  ·exact ⟨L _, nx _ f1 f2 f3.1 hwc, C.chunk p.at', ⟨.inr rfl, rfl, (aft_load (who := who) (a := C.chunk p.at') ok (by omega)).s, rfl, fun _ _ => rfl, rfl⟩⟩
  ·exact ⟨L _, fun _ => ⟨f1, f2, f3, hwc⟩, C.chunk p.at', ⟨.inr rfl, rfl, (aft_load (who := who) (a := C.chunk p.at') ok (by omega)).s, rfl, fun _ _ => rfl, rfl⟩⟩
 rw [if_neg c3]
 by_cases c4 : p.pc = 4
 ·rw [if_pos c4]
  have a1 := fun v => aft_cas (who := who) (a := C.chunk p.at') (o := p.w) (v := v) ok (by omega)
  split
  ·exact ⟨Cs _ _ (putChunk_in _ _ _ _), fun _ => ⟨f1, f2, f3, f4⟩, C.chunk p.at', ⟨.inr rfl, cas_la, (a1 _).s, (a1 _).n, fun i hi => by rw [(a1 _).w, aw hi], rfl⟩⟩
  ·exact ⟨Cs _ _ (putChunk_in _ _ _ _), nx _ f1 f2 f3.1 f4, C.chunk p.at', ⟨.inr rfl, cas_la, (a1 _).s, (a1 _).n, fun i hi => by rw [(a1 _).w, aw hi], rfl⟩⟩
 rw [if_neg c4]
 by_cases c5 : p.pc = 5
 ·rw [if_pos c5]
  have a1 := fun v => aft_cas (who := who) (a := 2 + p.cls) (o := p.opn) (v := v) ok (by omega)
  refine ⟨⟨(a1 _).ok (by decide) ok (fun i => ?_), by rw [(a1 _).n]; exact n, fun c c0 c3 => ?_⟩, fun _ => ?_, 2 + p.cls, ⟨.inl rfl, cas_la, (a1 _).s, (a1 _).n, fun i hi => by rw [(a1 _).w, aw hi], ?_⟩⟩
  ·split
   ·exact upd_cases (P := fun x => 0 ≤ x ∧ x < 18446744073709551616) (by omega) (ok.w i)
   ·exact ok.w i
  ·rw [(a1 _).w]
   split
   ·exact upd_cases (P := fun x => x ≤ C.C) (by omega) (op c c0 c3)
   ·exact op c c0 c3
  ·dsimp only; split <;> exact ⟨f1, f2, f3, f4⟩
  ·dsimp only; split <;> rfl
 ·rw [if_neg c5]
  have a1 := fun v => aft_cas (who := who) (a := C.chunk p.at') (o := p.fresh) (v := v) ok (by omega)
  exact ⟨Cs _ _ (putChunk_in _ _ _ _), fun _ => ⟨f1, f2, f3, f4⟩, C.chunk p.at', ⟨.inr rfl, cas_la, (a1 _).s, (a1 _).n, fun i hi => by rw [(a1 _).w, aw hi], rfl⟩⟩
theorem Pl.new_fit (hC : C.ok) {c : Int} (h0 : 0 ≤ c) (h1 : c ≤ 3) : (Pl.new c).fit C := by
 have := hC.C
 exact ⟨⟨h0, h1⟩, ⟨Int.le_refl 0, by show (0 : Int) < 18446744073709551616; decide⟩, ⟨Int.le_refl 0, by show (0 : Int) < C.C; omega⟩, ⟨Int.le_refl 0, by show (0 : Int) < 18446744073709551616; decide⟩⟩
def Pl.spot (p : Pl) : Value := .tuple #[if p.ok = true then .agg #[.int .i64 p.sa, .int .i64 p.sc] else .agg #[.int .i64 0, .int .i64 0], .bool p.ok]
end Go.Fl
namespace Go.Fl
open Go
set_option linter.unusedVariables false
set_option linter.unusedSimpArgs false
variable {N : Nm} {A B : Ar} {σ : Mem} {K : Value → Mem → Prop} {C : Cf} {who : Int}
theorem chunk_inj {i j : Int} (h : C.chunk i = C.chunk j) : i = j := by unfold Cf.chunk at h; omega
theorem chunk_ne (hC : C.ok) {i c : Int} (h0 : 0 ≤ i) (h1 : c ≤ 3) : C.chunk i ≠ 2 + c := by have := hC.T; have := hC.S; unfold Cf.chunk; omega
section
variable {p : Pl}
theorem Pl.s0a (h : p.pc = 0) (hn : IntKind.i64.wrap (A.w (2 + p.cls)) - 1 < 0) : p.step C who A = (false, { p with opn := A.w (2 + p.cls), at' := 0, pc := 3 }, (A.by who).load (2 + p.cls)) := by
 unfold Pl.step; rw [if_pos h]; dsimp only; rw [if_pos hn]
theorem Pl.s0b (h : p.pc = 0) (hn : ¬ IntKind.i64.wrap (A.w (2 + p.cls)) - 1 < 0) : p.step C who A = (false, { p with opn := A.w (2 + p.cls), at' := IntKind.i64.wrap (A.w (2 + p.cls)) - 1, pc := 1 }, (A.by who).load (2 + p.cls)) := by
 unfold Pl.step; rw [if_pos h]; dsimp only; rw [if_neg hn]
theorem Pl.s1a (h : p.pc = 1) (hn : chS (A.w (C.chunk p.at')) ≠ 1 ∨ chC (A.w (C.chunk p.at')) ≠ p.cls ∨ C.W < chU (A.w (C.chunk p.at')) + roomOf p.cls) :
  p.step C who A = (false, { p with w := A.w (C.chunk p.at'), at' := 0, pc := 3 }, (A.by who).load (C.chunk p.at')) := by
 unfold Pl.step; rw [if_neg (by omega), if_pos h]; dsimp only; rw [if_pos hn]
theorem Pl.s1b (h : p.pc = 1) (hn : ¬ (chS (A.w (C.chunk p.at')) ≠ 1 ∨ chC (A.w (C.chunk p.at')) ≠ p.cls ∨ C.W < chU (A.w (C.chunk p.at')) + roomOf p.cls)) :
  p.step C who A = (false, { p with w := A.w (C.chunk p.at'), pc := 2 }, (A.by who).load (C.chunk p.at')) := by
 unfold Pl.step; rw [if_neg (by omega), if_pos h]; dsimp only; rw [if_neg hn]
theorem Pl.s2a (h : p.pc = 2) (hn : A.w (C.chunk p.at') = p.w) :
  p.step C who A = (true, { p with pc := 0, sa := C.base p.at' + chU p.w, sc := p.at', ok := true }, (A.by who).cas (C.chunk p.at') p.w (putChunk (chS p.w) (chC p.w) (chU p.w + roomOf p.cls) (chN p.w))) := by
 unfold Pl.step; rw [if_neg (by omega), if_neg (by omega), if_pos h]; dsimp only; rw [if_pos hn, decide_eq_true hn]
theorem Pl.s3a (h : p.pc = 3) (hn : chS (A.w (C.chunk p.at')) ≠ 0) :
  p.step C who A = (decide (C.C ≤ p.at' + 1), { p with w := A.w (C.chunk p.at'), at' := p.at' + 1, pc := 3 }, (A.by who).load (C.chunk p.at')) := by
 unfold Pl.step; rw [if_neg (by omega), if_neg (by omega), if_neg (by omega), if_pos h]; dsimp only; rw [if_pos hn]; rfl
theorem Pl.s3b (h : p.pc = 3) (hn : chS (A.w (C.chunk p.at')) = 0) :
  p.step C who A = (false, { p with w := A.w (C.chunk p.at'), pc := 4 }, (A.by who).load (C.chunk p.at')) := by
 unfold Pl.step; rw [if_neg (by omega), if_neg (by omega), if_neg (by omega), if_pos h]; dsimp only; rw [if_neg (fun q => q hn)]
theorem Pl.s4a (h : p.pc = 4) (hn : A.w (C.chunk p.at') = p.w) :
  p.step C who A = (false, { p with pc := 5 }, (A.by who).cas (C.chunk p.at') p.w p.fresh) := by
 unfold Pl.step; rw [if_neg (by omega), if_neg (by omega), if_neg (by omega), if_neg (by omega), if_pos h, if_pos hn]
theorem Pl.s5a (h : p.pc = 5) (hn : A.w (2 + p.cls) = p.opn) :
  p.step C who A = (false, { p with pc := 0 }, (A.by who).cas (2 + p.cls) p.opn (p.at' + 1)) := by
 unfold Pl.step; rw [if_neg (by omega), if_neg (by omega), if_neg (by omega), if_neg (by omega), if_neg (by omega), if_pos h, if_pos hn]
theorem Pl.s6 (h0 : p.pc ≠ 0) (h1 : p.pc ≠ 1) (h2 : p.pc ≠ 2) (h3 : p.pc ≠ 3) (h4 : p.pc ≠ 4) (h5 : p.pc ≠ 5) :
  p.step C who A = (false, { p with pc := 0 }, (A.by who).cas (C.chunk p.at') p.fresh (putChunk 0 0 0 (chN p.w + 2))) := by
 unfold Pl.step; rw [if_neg h0, if_neg h1, if_neg h2, if_neg h3, if_neg h4, if_neg h5]
end
theorem stFl {P Q : Prop} (q : Q) : if (false : Bool) = true then P else Q := by rw [if_neg Bool.false_ne_true]; exact q
theorem stTr {P Q : Prop} (q : P) : if (true : Bool) = true then P else Q := by rw [if_pos rfl]; exact q
end Go.Fl
namespace Go.Fl
open Go
set_option linter.unusedVariables false
set_option linter.unusedSimpArgs false
variable {N : Nm} {A B : Ar} {σ : Mem} {K : Value → Mem → Prop} {C : Cf} {who : Int}
structure Al where
 size : Int
 own : Bool
 pc : Int
 tk : Tk
 at' : Int
 gen : Int
 p : Option Nat
 sa : Int
 sc : Int
 g : Option Nat
 oE : Int
 oH : Int
 oV : Int
 oS : Int
def obP (p : Option Nat) : Value := .pointer (p.map fun i => ⟨i, 0, none⟩)
theorem obP_s {i : Nat} : obP (some i) = .pointer (some ⟨i, 0, none⟩) := rfl
def Al.l (a : Al) : List Value := [.int .i64 a.size, .bool a.own, .int .i64 a.pc] ++ a.tk.l ++ [.int .i64 a.at', .int .i64 a.gen, obP a.p, .int .i64 a.sa, .int .i64 a.sc, obP a.g, .int .i64 a.oE, .int .u64 a.oH, .int .i64 a.oV, .int .i64 a.oS]
def Al.new (size : Int) (own : Bool) : Al := ⟨size, own, 0, Tk.new, 0, 0, none, 0, 0, none, 0, 0, 0, 0⟩
theorem c_AllocNew {s : Int} {o : Bool} (hk : ∀ id τ, σ.get id = none → τ.get id = some ⟨(Al.new s o).l, true⟩ → Ext σ τ → K (.pointer (some ⟨id, 0, none⟩)) τ) : s_al [.int .i64 s, .bool o] K σ := by
 have b : ∀ K : Value → Prop, xF (fBuild [(0, 1), (1, 1), (2, 1), (3, 5), (8, 1), (9, 1), (10, 1), (11, 2), (13, 1), (14, 4)] [(.int .i64 0), (.bool false), (.int .i64 0), (.int .i64 0), (.int .u64 0), (.int .i64 0), (.int .i64 0), (.bool false), (.int .i64 0), (.int .i64 0), (.pointer none), (.int .i64 0), (.int .i64 0), (.pointer none), (.int .i64 0), (.int .u64 0), (.int .i64 0), (.int .i64 0)] [0, 1]) [.int .i64 s, .bool o] K =
   K (.agg (Al.new s o).l.toArray) := fun K => nr rfl
 simp only [s_al, w_al, b, ruS, Nat.reduceAdd, reduceIte, Int.reduceLT, Int.reduceLE, Int.reduceEq, Int.reduceNeg, Int.reduceAdd, Int.reduceSub]
 exact hBox_i (cs := (Al.new s o).l) rfl hk
theorem c_AllocDone (hA : isA N A σ) {p : Nat} {a : Al} (hp : σ.get p = some ⟨a.l, true⟩) (hd : p ∉ N.l)
  (hk : K (.agg #[.int .i64 a.oE, .int .u64 a.oH, .int .i64 a.oV, .int .i64 a.oS]) σ) : s_ah [.pointer (some ⟨p, 0, none⟩)] K σ := by
 have gs : ∀ x y z w : Int, gStore 4 [.pointer (some ⟨2, 0, some 0⟩), .agg #[.int .i64 x, .int .u64 y, .int .i64 z, .int .i64 w]] [.int .i64 0, .int .u64 0, .int .i64 0, .int .i64 0] = some [.int .i64 x, .int .u64 y, .int .i64 z, .int .i64 w] := fun _ _ _ _ => rfl
 have l := @hLoad_eq
 have e : hLoad 4 true [.pointer (some ⟨p, 14, none⟩)] = fun K σ' => hLoad 4 true [.pointer (some ⟨p, 14, none⟩)] K σ' := rfl
 simp only [s_ah, w_ah, ruS, ruL, ruE, Nat.reduceAdd, reduceIte, Int.reduceLT, Int.reduceLE, Int.reduceEq, Int.reduceNeg, Int.reduceAdd, Int.reduceSub, Nat.reduceLeDiff, Nat.reduceLT]
 rw [hLoad_eq hp]
 have sb : sub a.l 14 4 true = some (.agg #[.int .i64 a.oE, .int .u64 a.oH, .int .i64 a.oV, .int .i64 a.oS]) := rfl
 rw [sb]
 simp only [gs, sub4, ruS, ruL, ruE, Nat.reduceAdd, reduceIte, Int.reduceLT, Int.reduceLE, Int.reduceEq, Int.reduceNeg, Int.reduceAdd, Int.reduceSub, Nat.reduceLeDiff, Nat.reduceLT]
 exact hk
theorem c_head {p : Nat} {a : Al} {k : Int} (hd : p ∉ N.l) : s_ak [.pointer (some ⟨p, 0, none⟩), .int .i64 k] K (putA N A (σ.set p ⟨a.l, true⟩)) = K (.int .u64 (putHead k a.size a.at' a.gen a.own)) (putA N A (σ.set p ⟨a.l, true⟩)) := by
 have b : ∀ (a b c d : Int) (e : Bool) (K : Value → Prop), xF (fBuild [(0, 1), (1, 1), (2, 1), (3, 1), (4, 1)] [.int .i64 0, .int .i64 0, .int .i64 0, .int .i64 0, .bool false] [0, 1, 2, 3, 4]) [.int .i64 a, .int .i64 b, .int .i64 c, .int .i64 d, .bool e] K =
   K (.agg #[.int .i64 a, .int .i64 b, .int .i64 c, .int .i64 d, .bool e]) := fun _ _ _ _ _ K => nr rfl
 have ld : ∀ (k : Nat) (v : Value) (K : Value → Mem → Prop), sub a.l k 1 false = some v → hLoad 1 false [.pointer (some ⟨p, k, none⟩)] K (putA N A (σ.set p ⟨a.l, true⟩)) = K v (putA N A (σ.set p ⟨a.l, true⟩)) := fun k v K h => by
  rw [hLoad_eq ((putA_get hd).trans (Mem.get_set_same _ _ _)), h, xOs]
 simp only [s_ak, w_ak, ruS, Nat.reduceAdd, reduceIte, Int.reduceLT, Int.reduceLE, Int.reduceEq, Int.reduceNeg, Int.reduceAdd, Int.reduceSub]
 rw [ld 0 (.int .i64 a.size) _ rfl, ld 8 (.int .i64 a.at') _ rfl, ld 9 (.int .i64 a.gen) _ rfl, ld 1 (.bool a.own) _ rfl, b, c_PutHead]
theorem c_end {p : Nat} {a : Al} {x : Int} (hd : p ∉ N.l) : s_aj [.pointer (some ⟨p, 0, none⟩), N.env C who, .int .i64 x] K (putA N A (σ.set p ⟨a.l, true⟩)) =
  K (.tuple #[]) (putA N A (σ.set p ⟨({ a with oE := x, oH := 0, oV := 0, oS := A.s } : Al).l, true⟩)) := by
 have b : ∀ (a c : Int) (K : Value → Prop), xF (fBuild [(0, 1), (1, 1), (2, 1), (3, 1)] [.int .i64 0, .int .u64 0, .int .i64 0, .int .i64 0] [0, 3]) [.int .i64 a, .int .i64 c] K = K (.agg #[.int .i64 a, .int .u64 0, .int .i64 0, .int .i64 c]) := fun _ _ K => nr rfl
 simp only [s_aj, w_aj, ruS, ruL, ruE, Nat.reduceAdd, reduceIte, Int.reduceLT, Int.reduceLE, Int.reduceEq, Int.reduceNeg, Int.reduceAdd, Int.reduceSub, Nat.reduceLeDiff, Nat.reduceLT]
 rw [c_Now, b]
 have := stOa (K := fun _ σ => K (.tuple #[]) σ) (N := N) (A := A) (σ := σ) (p := p) (pre := []) (L := a.l) (post := []) (k := 14) (sz := 4) (c := [.int .i64 x, .int .u64 0, .int .i64 0, .int .i64 A.s]) hd rfl (Nat.le_refl 18) rfl
 refine Eq.trans this ?_
 rfl
theorem ldA {p k sz : Nat} {ag : Bool} {a : Al} {v : Value} (hd : p ∉ N.l) (h : sub a.l k sz ag = some v) : hLoad sz ag [.pointer (some ⟨p, k, none⟩)] K (putA N A (σ.set p ⟨a.l, true⟩)) = K v (putA N A (σ.set p ⟨a.l, true⟩)) := by
 rw [hLoad_eq ((putA_get hd).trans (Mem.get_set_same _ _ _)), h, xOs]
theorem stA {p k : Nat} {a : Al} (a' : Al) {kd : IntKind} {n : Int} (hd : p ∉ N.l) (hk : k + 1 ≤ 18) (e : lay a.l k [.int kd n] = a'.l) : hStore 1 [.pointer (some ⟨p, k, none⟩), .int kd n] K (putA N A (σ.set p ⟨a.l, true⟩)) = K undef (putA N A (σ.set p ⟨a'.l, true⟩)) := by
 have := stOi (N := N) (A := A) (σ := σ) (K := K) (p := p) (pre := []) (L := a.l) (post := []) (k := k) (kd := kd) (n := n) hd hk
 rw [e] at this
 simpa only [List.nil_append, List.append_nil, List.length_nil, Nat.zero_add] using this
theorem c_Al3 (hN : N.ok) (hC : C.ok) (hA : isA N A σ) {p : Nat} {a : Al} (hp : σ.get p = some ⟨a.l, true⟩) (hd : p ∉ N.l) (hn : C.len ≤ A.n) (h : a.pc = 3) (hsc : 0 ≤ a.sc ∧ a.sc < C.C) (hcl : 0 ≤ classOf a.size)
  (hk : ∀ τ, isA N ((A.by who).add (C.chunk a.sc + 1) (roomOf (classOf a.size))) τ → τ.get p = some ⟨({ a with pc := 4 } : Al).l, true⟩ → Keep (p :: N.l) σ τ → K (.bool false) τ) : s_ai [.pointer (some ⟨p, 0, none⟩), N.env C who] K σ := by
 rw [hA.obj hp]
 have hcb := chunk_bd hC hsc.1 hsc.2 hn
 have hT := hC.T; have hS := hC.S; have hC3 := hC.C; have hl := len_bd hC
 have hch : C.chunk C.C = 6 + C.T + 2 * C.S + 3 * C.C := rfl
 have hcj : C.chunk a.sc = 6 + C.T + 2 * C.S + 3 * a.sc := rfl
 have hc3 : classOf a.size ≤ 3 := by unfold classOf; split <;> (try split) <;> (try split) <;> (try split) <;> (try split) <;> omega
 have hr := room_bd hcl hc3
 have e0 : ¬ (3 : Int) = 0 := by decide
 simp only [s_ai, w_ai, w_ai_j1, w_ai_j1b, ruS, ruL, ruE, Nat.reduceAdd, reduceIte, Int.reduceLT, Int.reduceLE, Int.reduceEq, Int.reduceNeg, Int.reduceAdd, Int.reduceSub, Nat.reduceLeDiff, Nat.reduceLT]
 rw [ldA hd (show sub _ 2 1 false = some (.int .i64 a.pc) from rfl)]
 simp only [h, ruS, ruL, ruE, Nat.reduceAdd, reduceIte, Int.reduceLT, Int.reduceLE, Int.reduceEq, Int.reduceNeg, Int.reduceAdd, Int.reduceSub, Nat.reduceLeDiff, Nat.reduceLT]
 rw [ldA hd (show sub _ 12 1 false = some (.int .i64 a.sc) from rfl), c_Chunk hC hsc.1 (by omega)]
 simp only [ruS, ruL, ruE, Nat.reduceAdd, reduceIte, Int.reduceLT, Int.reduceLE, Int.reduceEq, Int.reduceNeg, Int.reduceAdd, Int.reduceSub, Nat.reduceLeDiff, Nat.reduceLT]
 rw [IntWalk.i64_in (C.chunk a.sc + 1) (by omega), ldA hd (show sub _ 0 1 false = some (.int .i64 a.size) from rfl)]
 refine c_Class ?_
 rw [c_Room hcl hc3, c_Add hN (by omega) (by omega), stA { a with pc := 4 } hd (by decide) rfl, show IntKind.u64.wrap (roomOf (classOf a.size)) = roomOf (classOf a.size) from IntWalk.u64_in _ (by omega)]
 exact behind hN hd hk
theorem c_Al4 (hN : N.ok) (hA : isA N A σ) {p : Nat} {a : Al} (hp : σ.get p = some ⟨a.l, true⟩) (hd : p ∉ N.l) (h : a.pc = 4) (hsa : 0 ≤ a.sa ∧ a.sa < A.n)
  (hk : ∀ τ, isA N ((A.by who).store a.sa (putHead 1 a.size a.at' a.gen a.own)) τ → τ.get p = some ⟨({ a with pc := 5 } : Al).l, true⟩ → Keep (p :: N.l) σ τ → K (.bool false) τ) : s_ai [.pointer (some ⟨p, 0, none⟩), N.env C who] K σ := by
 rw [hA.obj hp]
 simp only [s_ai, w_ai, w_ai_j1, w_ai_j1b, ruS, ruL, ruE, Nat.reduceAdd, reduceIte, Int.reduceLT, Int.reduceLE, Int.reduceEq, Int.reduceNeg, Int.reduceAdd, Int.reduceSub, Nat.reduceLeDiff, Nat.reduceLT]
 rw [ldA hd (show sub _ 2 1 false = some (.int .i64 a.pc) from rfl)]
 simp only [h, ruS, ruL, ruE, Nat.reduceAdd, reduceIte, Int.reduceLT, Int.reduceLE, Int.reduceEq, Int.reduceNeg, Int.reduceAdd, Int.reduceSub, Nat.reduceLeDiff, Nat.reduceLT]
 rw [ldA hd (show sub _ 11 1 false = some (.int .i64 a.sa) from rfl), c_head hd, c_Store hN hsa.1 hsa.2, stA { a with pc := 5 } hd (by decide) rfl]
 exact behind hN hd hk
theorem c_Al6 (hN : N.ok) (hA : isA N A σ) {p : Nat} {a : Al} (hp : σ.get p = some ⟨a.l, true⟩) (hd : p ∉ N.l) (h : a.pc = 6) (hsa : 0 ≤ a.sa ∧ a.sa < A.n)
  (hk : ∀ τ, isA N ((A.by who).store a.sa (putHead 2 a.size a.at' a.gen a.own)) τ → τ.get p = some ⟨a.l, true⟩ → Keep (p :: N.l) σ τ → K (.bool true) τ) : s_ai [.pointer (some ⟨p, 0, none⟩), N.env C who] K σ := by
 rw [hA.obj hp]
 simp only [s_ai, w_ai, w_ai_j1, w_ai_j1b, ruS, ruL, ruE, Nat.reduceAdd, reduceIte, Int.reduceLT, Int.reduceLE, Int.reduceEq, Int.reduceNeg, Int.reduceAdd, Int.reduceSub, Nat.reduceLeDiff, Nat.reduceLT]
 rw [ldA hd (show sub _ 2 1 false = some (.int .i64 a.pc) from rfl)]
 simp only [h, ruS, ruL, ruE, Nat.reduceAdd, reduceIte, Int.reduceLT, Int.reduceLE, Int.reduceEq, Int.reduceNeg, Int.reduceAdd, Int.reduceSub, Nat.reduceLeDiff, Nat.reduceLT]
 rw [ldA hd (show sub _ 11 1 false = some (.int .i64 a.sa) from rfl), c_head hd, c_Store hN hsa.1 hsa.2]
 exact behind hN hd hk
theorem c_Al5 (hN : N.ok) (hC : C.ok) (hA : isA N A σ) {p : Nat} {a : Al} (hp : σ.get p = some ⟨a.l, true⟩) (hd : p ∉ N.l) (hn : C.len ≤ A.n) (h : a.pc = 5) (hat : 0 ≤ a.at' ∧ a.at' < C.S)
  (hk : ∀ τ, isA N ((A.by who).store (C.slot a.at') (putSlot 1 a.sa a.gen 0)) τ → τ.get p = some ⟨({ a with pc := 6, oE := 0, oH := putHandle a.at' a.gen, oV := 0, oS := ((A.by who).store (C.slot a.at') (putSlot 1 a.sa a.gen 0)).s } : Al).l, true⟩ → Keep (p :: N.l) σ τ → K (.bool false) τ) :
  s_ai [.pointer (some ⟨p, 0, none⟩), N.env C who] K σ := by
 rw [hA.obj hp]
 have b1 : ∀ (a b c : Int) (K : Value → Prop), xF (fBuild [(0, 1), (1, 1), (2, 1), (3, 1)] [.int .i64 0, .int .i64 0, .int .i64 0, .int .i64 0] [0, 1, 2]) [.int .i64 a, .int .i64 b, .int .i64 c] K = K (.agg #[.int .i64 a, .int .i64 b, .int .i64 c, .int .i64 0]) := fun _ _ _ K => nr rfl
 have b2 : ∀ (a b : Int) (K : Value → Prop), xF (fBuild [(0, 1), (1, 1)] [.int .i64 0, .int .i64 0] [0, 1]) [.int .i64 a, .int .i64 b] K = K (.agg #[.int .i64 a, .int .i64 b]) := fun _ _ K => nr rfl
 have b3 : ∀ (a b : Int) (K : Value → Prop), xF (fBuild [(0, 1), (1, 1), (2, 1), (3, 1)] [.int .i64 0, .int .u64 0, .int .i64 0, .int .i64 0] [1, 3]) [.int .u64 a, .int .i64 b] K = K (.agg #[.int .i64 0, .int .u64 a, .int .i64 0, .int .i64 b]) := fun _ _ K => nr rfl
 have hT := hC.T; have hS := hC.S; have hC3 := hC.C; have hl := len_bd hC
 have hch : C.chunk C.C = 6 + C.T + 2 * C.S + 3 * C.C := rfl
 have hsl : C.slot a.at' = 6 + C.T + 2 * a.at' := rfl
 simp only [s_ai, w_ai, w_ai_j1, w_ai_j1b, ruS, ruL, ruE, Nat.reduceAdd, reduceIte, Int.reduceLT, Int.reduceLE, Int.reduceEq, Int.reduceNeg, Int.reduceAdd, Int.reduceSub, Nat.reduceLeDiff, Nat.reduceLT]
 rw [ldA hd (show sub _ 2 1 false = some (.int .i64 a.pc) from rfl)]
 simp only [h, ruS, ruL, ruE, Nat.reduceAdd, reduceIte, Int.reduceLT, Int.reduceLE, Int.reduceEq, Int.reduceNeg, Int.reduceAdd, Int.reduceSub, Nat.reduceLeDiff, Nat.reduceLT]
 rw [ldA hd (show sub _ 8 1 false = some (.int .i64 a.at') from rfl), c_Slot hC hat.1 (by omega), ldA hd (show sub _ 11 1 false = some (.int .i64 a.sa) from rfl), ldA hd (show sub _ 9 1 false = some (.int .i64 a.gen) from rfl), b1, c_PutSlot,
  c_Store hN (by omega) (by omega), ldA hd (show sub _ 8 1 false = some (.int .i64 a.at') from rfl), ldA hd (show sub _ 9 1 false = some (.int .i64 a.gen) from rfl), b2, c_PutHandle, c_Now, b3]
 generalize hA' : (A.by who).store (C.slot a.at') (putSlot 1 a.sa a.gen 0) = A' at *
 have st : ∀ K : Value → Mem → Prop, hStore 4 [.pointer (some ⟨p, 14, none⟩), .agg #[.int .i64 0, .int .u64 (putHandle a.at' a.gen), .int .i64 0, .int .i64 A'.s]] K (putA N A' (σ.set p ⟨a.l, true⟩)) = K undef (putA N A' (σ.set p ⟨({ a with oE := 0, oH := putHandle a.at' a.gen, oV := 0, oS := A'.s } : Al).l, true⟩)) := by
  intro K
  have := stOa (K := K) (N := N) (A := A') (σ := σ) (p := p) (pre := []) (L := a.l) (post := []) (k := 14) (sz := 4) (c := [.int .i64 0, .int .u64 (putHandle a.at' a.gen), .int .i64 0, .int .i64 A'.s]) hd rfl (Nat.le_refl 18) rfl
  exact this
 rw [st, stA { a with pc := 6, oE := 0, oH := putHandle a.at' a.gen, oV := 0, oS := A'.s } hd (by decide) rfl]
 exact behind hN hd hk
theorem ldB {p k sz : Nat} {ag : Bool} {a : Al} {v : Value} (hp : σ.get p = some ⟨a.l, true⟩) (h : sub a.l k sz ag = some v) : hLoad sz ag [.pointer (some ⟨p, k, none⟩)] K σ = K v σ := by
 rw [hLoad_eq hp, h, xOs]
theorem c_Al7 (hN : N.ok) (hC : C.ok) (hA : isA N A σ) {p q : Nat} {a : Al} {g : Gv} (hp : σ.get p = some ⟨a.l, true⟩) (hq : σ.get q = some ⟨[] ++ g.l ++ [], true⟩) (hd : q ∉ N.l) (hw : ∀ i, 0 ≤ A.w i ∧ A.w i < 18446744073709551616) (hn : C.len ≤ A.n)
  (h : a.pc = 7) (hg : a.g = some q) (h0 : 0 ≤ g.top ∧ g.top < 18446744073709551616) (h1 : 0 ≤ g.slot ∧ g.slot < C.S)
  (hk : ∀ τ, isA N (g.step C who A).2.2 τ → τ.get q = some ⟨[] ++ (g.step C who A).2.1.l ++ [], true⟩ → Keep (q :: N.l) σ τ → K (.bool (g.step C who A).1) τ) : s_ai [.pointer (some ⟨p, 0, none⟩), N.env C who] K σ := by
 simp only [s_ai, w_ai, w_ai_j1, w_ai_j1b, ruS, ruL, ruE, Nat.reduceAdd, reduceIte, Int.reduceLT, Int.reduceLE, Int.reduceEq, Int.reduceNeg, Int.reduceAdd, Int.reduceSub, Nat.reduceLeDiff, Nat.reduceLT]
 rw [ldB hp (show sub _ 2 1 false = some (.int .i64 a.pc) from rfl)]
 simp only [h, ruS, ruL, ruE, Nat.reduceAdd, reduceIte, Int.reduceLT, Int.reduceLE, Int.reduceEq, Int.reduceNeg, Int.reduceAdd, Int.reduceSub, Nat.reduceLeDiff, Nat.reduceLT]
 rw [ldB hp (show sub _ 13 1 false = some (obP a.g) from rfl), hg, obP_s]
 exact c_Give_Step hN hC hA (t := g) (pre := []) (post := []) hq hd hw hn h0 h1 hk
theorem c_Al0 (hN : N.ok) (hC : C.ok) (hA : isA N A σ) {p : Nat} {a : Al} (hp : σ.get p = some ⟨a.l, true⟩) (hd : p ∉ N.l) (hw : ∀ i, 0 ≤ A.w i ∧ A.w i < 18446744073709551616) (hn : C.len ≤ A.n) (h : a.pc = 0)
  (h0 : 0 ≤ a.tk.top ∧ a.tk.top < 18446744073709551616) (h1 : a.tk.pc = 1 → 0 ≤ a.tk.slot ∧ a.tk.slot < C.S) (h2 : 0 ≤ a.tk.next + 1)
  (k0 : classOf a.size < 0 → ∀ τ, isA N A τ → τ.get p = some ⟨({ a with oE := 5, oH := 0, oV := 0, oS := A.s } : Al).l, true⟩ → Keep (p :: N.l) σ τ → K (.bool true) τ)
  (k1 : 0 ≤ classOf a.size → (a.tk.step C who A).1 = false → ∀ τ, isA N (a.tk.step C who A).2.2 τ → τ.get p = some ⟨({ a with tk := (a.tk.step C who A).2.1 } : Al).l, true⟩ → Keep (p :: N.l) σ τ → K (.bool false) τ)
  (k2 : 0 ≤ classOf a.size → (a.tk.step C who A).1 = true → (a.tk.step C who A).2.1.ok = true → ∀ τ, isA N (a.tk.step C who A).2.2 τ → τ.get p = some ⟨({ a with tk := (a.tk.step C who A).2.1, at' := (a.tk.step C who A).2.1.slot, pc := 1 } : Al).l, true⟩ → Keep (p :: N.l) σ τ → K (.bool false) τ)
  (k3 : 0 ≤ classOf a.size → (a.tk.step C who A).1 = true → (a.tk.step C who A).2.1.ok = false → ∀ τ, isA N (a.tk.step C who A).2.2 τ → τ.get p = some ⟨({ a with tk := (a.tk.step C who A).2.1, at' := 0, pc := 1, oE := 7, oH := 0, oV := 0, oS := (a.tk.step C who A).2.2.s } : Al).l, true⟩ → Keep (p :: N.l) σ τ → K (.bool true) τ) :
  s_ai [.pointer (some ⟨p, 0, none⟩), N.env C who] K σ := by
 simp only [s_ai, w_ai, w_ai_j1, w_ai_j1b, ruS, ruL, ruE, Nat.reduceAdd, reduceIte, Int.reduceLT, Int.reduceLE, Int.reduceEq, Int.reduceNeg, Int.reduceAdd, Int.reduceSub, Nat.reduceLeDiff, Nat.reduceLT]
 rw [ldB hp (show sub _ 2 1 false = some (.int .i64 a.pc) from rfl)]
 simp only [h, ruS, ruL, ruE, Nat.reduceAdd, reduceIte, Int.reduceLT, Int.reduceLE, Int.reduceEq, Int.reduceNeg, Int.reduceAdd, Int.reduceSub, Nat.reduceLeDiff, Nat.reduceLT]
 rw [ldB hp (show sub _ 0 1 false = some (.int .i64 a.size) from rfl)]
 refine c_Class ?_
 by_cases c : classOf a.size < 0
 ·simp only [c, ruS, ruL, ruE, Nat.reduceAdd, reduceIte, Int.reduceLT, Int.reduceLE, Int.reduceEq, Int.reduceNeg, Int.reduceAdd, Int.reduceSub, Nat.reduceLeDiff, Nat.reduceLT]
  rw [hA.obj hp, c_end hd]
  exact behind hN hd (k0 c)
 ·simp only [c, ruS, ruL, ruE, Nat.reduceAdd, reduceIte, Int.reduceLT, Int.reduceLE, Int.reduceEq, Int.reduceNeg, Int.reduceAdd, Int.reduceSub, Nat.reduceLeDiff, Nat.reduceLT]
  have c' : 0 ≤ classOf a.size := by omega
  refine c_Take_Step hN hC hA (t := a.tk) (pre := [.int .i64 a.size, .bool a.own, .int .i64 a.pc]) (post := [.int .i64 a.at', .int .i64 a.gen, obP a.p, .int .i64 a.sa, .int .i64 a.sc, obP a.g, .int .i64 a.oE, .int .u64 a.oH, .int .i64 a.oV, .int .i64 a.oS]) hp hd hw hn h0 h1 h2 fun τ hA' hg' hK => ?_
  replace k1 := k1 c'
  replace k2 := k2 c'
  replace k3 := k3 c'
  generalize a.tk.step C who A = r at *
  obtain ⟨d, t', A'⟩ := r
  dsimp only at *
  have hg2 : τ.get p = some ⟨({ a with tk := t' } : Al).l, true⟩ := hg'
  cases d with
  | false => simp only [ruS, ruL, ruE, Nat.reduceAdd, reduceIte, Int.reduceLT, Int.reduceLE, Int.reduceEq, Int.reduceNeg, Int.reduceAdd, Int.reduceSub, Nat.reduceLeDiff, Nat.reduceLT]; exact k1 rfl τ hA' hg2 hK
  | true =>
   simp only [ruS, ruL, ruE, Nat.reduceAdd, reduceIte, Int.reduceLT, Int.reduceLE, Int.reduceEq, Int.reduceNeg, Int.reduceAdd, Int.reduceSub, Nat.reduceLeDiff, Nat.reduceLT]
   refine c_Take_Slot hA' (pre := [.int .i64 a.size, .bool a.own, .int .i64 a.pc]) (post := [.int .i64 a.at', .int .i64 a.gen, obP a.p, .int .i64 a.sa, .int .i64 a.sc, obP a.g, .int .i64 a.oE, .int .u64 a.oH, .int .i64 a.oV, .int .i64 a.oS]) hg' hd ?_
   simp only [ruS, ruL, ruE, Nat.reduceAdd, reduceIte, Int.reduceLT, Int.reduceLE, Int.reduceEq, Int.reduceNeg, Int.reduceAdd, Int.reduceSub, Nat.reduceLeDiff, Nat.reduceLT]
   rw [hA'.obj hg2, stA { a with tk := t', at' := if t'.ok = true then t'.slot else 0 } hd (by decide) rfl, stA { a with tk := t', at' := if t'.ok = true then t'.slot else 0, pc := 1 } hd (by decide) rfl]
   cases o : t'.ok with
   | true =>
    simp only [o, ruS, ruL, ruE, Nat.reduceAdd, reduceIte, Int.reduceLT, Int.reduceLE, Int.reduceEq, Int.reduceNeg, Int.reduceAdd, Int.reduceSub, Nat.reduceLeDiff, Nat.reduceLT]
    exact behind hN hd fun υ u1 u2 u3 => k2 rfl o υ u1 (by simpa [o] using u2) (hK.trans u3)
   | false =>
    simp only [o, ruS, ruL, ruE, Nat.reduceAdd, reduceIte, Int.reduceLT, Int.reduceLE, Int.reduceEq, Int.reduceNeg, Int.reduceAdd, Int.reduceSub, Nat.reduceLeDiff, Nat.reduceLT]
    rw [c_end hd]
    exact behind hN hd fun υ u1 u2 u3 => k3 rfl o υ u1 (by simpa [o] using u2) (hK.trans u3)
theorem stAp {p k : Nat} {a : Al} (a' : Al) {b : Option Addr} (hd : p ∉ N.l) (hk : k + 1 ≤ 18) (e : lay a.l k [.pointer b] = a'.l) : hStore 1 [.pointer (some ⟨p, k, none⟩), .pointer b] K (putA N A (σ.set p ⟨a.l, true⟩)) = K undef (putA N A (σ.set p ⟨a'.l, true⟩)) := by
 have := stOp (N := N) (A := A) (σ := σ) (K := K) (p := p) (pre := []) (L := a.l) (post := []) (k := k) (b := b) hd hk
 rw [e] at this
 simpa only [List.nil_append, List.append_nil, List.length_nil, Nat.zero_add] using this
theorem c_Al1 (hN : N.ok) (hC : C.ok) (hA : isA N A σ) {p : Nat} {a : Al} (hp : σ.get p = some ⟨a.l, true⟩) (hd : p ∉ N.l) (hw : ∀ i, 0 ≤ A.w i ∧ A.w i < 18446744073709551616) (hn : C.len ≤ A.n) (h : a.pc = 1) (hat : 0 ≤ a.at' ∧ a.at' < C.S) (hp0 : σ.get p = some ⟨a.l, true⟩)
  (hk : ∀ q τ, σ.get q = none → q ≠ p → isA N ((A.by who).load (C.slot a.at')) τ → τ.get p = some ⟨({ a with gen := slG (A.w (C.slot a.at')), pc := 2, p := some q } : Al).l, true⟩ → τ.get q = some ⟨(Pl.new (classOf a.size)).l, true⟩ → Keep (p :: N.l) σ τ → K (.bool false) τ) :
  s_ai [.pointer (some ⟨p, 0, none⟩), N.env C who] K σ := by
 have hT := hC.T; have hS := hC.S; have hC3 := hC.C; have hl := len_bd hC
 have hch : C.chunk C.C = 6 + C.T + 2 * C.S + 3 * C.C := rfl
 have hsl : C.slot a.at' = 6 + C.T + 2 * a.at' := rfl
 have hsd : ∀ (w : Int) (K : Value → Prop), xF (fFldV 2 1 false) [.agg #[.int .i64 (slS w), .int .i64 (slA w), .int .i64 (slG w), .int .i64 (slV w)]] K = K (.int .i64 (slG w)) := fun w K => nr rfl
 rw [hA.obj hp]
 simp only [s_ai, w_ai, w_ai_j1, w_ai_j1b, ruS, ruL, ruE, Nat.reduceAdd, reduceIte, Int.reduceLT, Int.reduceLE, Int.reduceEq, Int.reduceNeg, Int.reduceAdd, Int.reduceSub, Nat.reduceLeDiff, Nat.reduceLT]
 rw [ldA hd (show sub _ 2 1 false = some (.int .i64 a.pc) from rfl)]
 simp only [h, ruS, ruL, ruE, Nat.reduceAdd, reduceIte, Int.reduceLT, Int.reduceLE, Int.reduceEq, Int.reduceNeg, Int.reduceAdd, Int.reduceSub, Nat.reduceLeDiff, Nat.reduceLT]
 rw [ldA hd (show sub _ 8 1 false = some (.int .i64 a.at') from rfl), c_Slot hC hat.1 (by omega), c_Load hN (by omega) (by omega), c_wSlot (hw _).1 (hw _).2]
 simp only [subE2, List.toList_toArray, ruS, ruL, ruE, Nat.reduceAdd, reduceIte, Int.reduceLT, Int.reduceLE, Int.reduceEq, Int.reduceNeg, Int.reduceAdd, Int.reduceSub, Nat.reduceLeDiff, Nat.reduceLT]
 rw [stA { a with gen := slG (A.w (C.slot a.at')) } hd (by decide) rfl, stA { a with gen := slG (A.w (C.slot a.at')), pc := 2 } hd (by decide) rfl, ldA (a := { a with gen := slG (A.w (C.slot a.at')), pc := 2 }) hd (show sub _ 0 1 false = some (.int .i64 a.size) from rfl)]
 refine c_Class ?_
 refine c_PlaceNew fun q τ hq gq x => ?_
 have isU : isA N ((A.by who).load (C.slot a.at')) (putA N ((A.by who).load (C.slot a.at')) (σ.set p ⟨({ a with gen := slG (A.w (C.slot a.at')), pc := 2 } : Al).l, true⟩)) := isA_put hN
 have gU : (putA N ((A.by who).load (C.slot a.at')) (σ.set p ⟨({ a with gen := slG (A.w (C.slot a.at')), pc := 2 } : Al).l, true⟩)).get p = some ⟨({ a with gen := slG (A.w (C.slot a.at')), pc := 2 } : Al).l, true⟩ := (putA_get hd).trans (Mem.get_set_same _ _ _)
 have kU : Keep (p :: N.l) σ (putA N ((A.by who).load (C.slot a.at')) (σ.set p ⟨({ a with gen := slG (A.w (C.slot a.at')), pc := 2 } : Al).l, true⟩)) := fun i b hi hn => by
  simp only [List.mem_cons, not_or] at hn
  rw [putA_get hn.2, Mem.get_set_ne _ _ hn.1]; exact hi
 generalize putA N ((A.by who).load (C.slot a.at')) (σ.set p ⟨({ a with gen := slG (A.w (C.slot a.at')), pc := 2 } : Al).l, true⟩) = υ at *
 have qp : q ≠ p := by rintro rfl; rw [gU] at hq; cases hq
 have qn := isU.new hq
 have hqs : σ.get q = none := by
  cases e : σ.get q with
  | none => rfl
  | some b => rw [kU q b e (by simp only [List.mem_cons, not_or]; exact ⟨qp, qn⟩)] at hq; cases hq
 have isT := isU.ext x
 have gT := x _ _ gU
 rw [isT.obj gT, stAp { a with gen := slG (A.w (C.slot a.at')), pc := 2, p := some q } hd (by decide) rfl]
 refine behind hN hd fun ω o1 o2 o3 => hk q ω hqs qp o1 o2 ?_ ?_
 ·exact o3 q _ gq (by simp only [List.mem_cons, not_or]; exact ⟨qp, qn⟩)
 ·exact (kU.trans x.keep).trans o3
theorem c_Al2 (hN : N.ok) (hC : C.ok) (hA : isA N A σ) {p q : Nat} {a : Al} {t : Pl} (hp : σ.get p = some ⟨a.l, true⟩) (hd : p ∉ N.l) (hq : σ.get q = some ⟨[] ++ t.l ++ [], true⟩) (hqd : q ∉ N.l) (hqp : q ≠ p)
  (hw : ∀ i, 0 ≤ A.w i ∧ A.w i < 18446744073709551616) (hn : C.len ≤ A.n) (h : a.pc = 2) (ha : a.p = some q) (hf : t.fit C) (ho : A.w (2 + t.cls) ≤ C.C)
  (k0 : (t.step C who A).1 = false → ∀ τ, isA N (t.step C who A).2.2 τ → τ.get p = some ⟨a.l, true⟩ → τ.get q = some ⟨[] ++ (t.step C who A).2.1.l ++ [], true⟩ → Keep (q :: p :: N.l) σ τ → K (.bool false) τ)
  (k1 : (t.step C who A).1 = true → (t.step C who A).2.1.ok = true → ∀ τ, isA N (t.step C who A).2.2 τ → τ.get p = some ⟨({ a with sa := (t.step C who A).2.1.sa, sc := (t.step C who A).2.1.sc, pc := 3 } : Al).l, true⟩ → Keep (q :: p :: N.l) σ τ → K (.bool false) τ)
  (k2 : (t.step C who A).1 = true → (t.step C who A).2.1.ok = false → ∀ id τ, σ.get id = none → id ∉ N.l → id ≠ p → isA N (t.step C who A).2.2 τ →
   τ.get p = some ⟨({ a with sa := 0, sc := 0, pc := 7, oE := 6, oH := 0, oV := 0, oS := (t.step C who A).2.2.s, g := some id } : Al).l, true⟩ → τ.get id = some ⟨(Gv.mk 0 a.at' 0).l, true⟩ → Keep (q :: p :: N.l) σ τ → K (.bool false) τ) :
  s_ai [.pointer (some ⟨p, 0, none⟩), N.env C who] K σ := by
 have gs : ∀ x y : Int, gStore 2 [.pointer (some ⟨7, 0, some 0⟩), .agg #[.int .i64 x, .int .i64 y]] [.int .i64 0, .int .i64 0] = some [.int .i64 x, .int .i64 y] := fun _ _ => rfl
 have sb2 : ∀ x y : Value, sub [x, y] 0 2 true = some (.agg #[x, y]) := fun _ _ => rfl
 simp only [s_ai, w_ai, w_ai_j1, w_ai_j1b, ruS, ruL, ruE, Nat.reduceAdd, reduceIte, Int.reduceLT, Int.reduceLE, Int.reduceEq, Int.reduceNeg, Int.reduceAdd, Int.reduceSub, Nat.reduceLeDiff, Nat.reduceLT]
 rw [ldB hp (show sub _ 2 1 false = some (.int .i64 a.pc) from rfl)]
 simp only [h, ruS, ruL, ruE, Nat.reduceAdd, reduceIte, Int.reduceLT, Int.reduceLE, Int.reduceEq, Int.reduceNeg, Int.reduceAdd, Int.reduceSub, Nat.reduceLeDiff, Nat.reduceLT]
 rw [ldB hp (show sub _ 10 1 false = some (obP a.p) from rfl), ha, obP_s]
 refine c_Place_Step hN hC hA (t := t) (pre := []) (post := []) hq hqd hw hn hf ho fun τ hA' hq' hK => ?_
 generalize t.step C who A = r at *
 obtain ⟨d, t', A'⟩ := r
 dsimp only at *
 have hp' : τ.get p = some ⟨a.l, true⟩ := hK.get hp (by simp only [List.mem_cons, not_or]; exact ⟨fun e => hqp e.symm, hd⟩)
 have hK2 : Keep (q :: p :: N.l) σ τ := hK.mono (by intro i hi; rcases List.mem_cons.1 hi with rfl | hi <;> simp [*])
 have hpL : ∀ i ∈ p :: N.l, i ∈ q :: p :: N.l := fun i hi => List.mem_cons_of_mem _ hi
 cases d with
 | false => simp only [ruS, ruL, ruE, Nat.reduceAdd, reduceIte, Int.reduceLT, Int.reduceLE, Int.reduceEq, Int.reduceNeg, Int.reduceAdd, Int.reduceSub, Nat.reduceLeDiff, Nat.reduceLT]; exact k0 rfl τ hA' hp' hq' hK2
 | true =>
  simp only [ruS, ruL, ruE, Nat.reduceAdd, reduceIte, Int.reduceLT, Int.reduceLE, Int.reduceEq, Int.reduceNeg, Int.reduceAdd, Int.reduceSub, Nat.reduceLeDiff, Nat.reduceLT]
  rw [ldB hp' (show sub _ 10 1 false = some (obP a.p) from rfl), ha, obP_s]
  refine c_Place_Spot hA' (pre := []) (post := []) hq' hqd ?_
  have st : ∀ (x y : Int) (K : Value → Mem → Prop), hStore 2 [.pointer (some ⟨p, 11, none⟩), .agg #[.int .i64 x, .int .i64 y]] K (putA N A' (τ.set p ⟨a.l, true⟩)) = K undef (putA N A' (τ.set p ⟨({ a with sa := x, sc := y } : Al).l, true⟩)) := by
   intro x y K
   have := stOa (K := K) (N := N) (A := A') (σ := τ) (p := p) (pre := []) (L := a.l) (post := []) (k := 11) (sz := 2) (c := [.int .i64 x, .int .i64 y]) hd rfl (by show 13 ≤ 18; decide) rfl
   exact this
  rw [hA'.obj hp']
  cases o : t'.ok with
  | true =>
   simp only [o, gs, sb2, ruS, ruL, ruE, Nat.reduceAdd, reduceIte, Int.reduceLT, Int.reduceLE, Int.reduceEq, Int.reduceNeg, Int.reduceAdd, Int.reduceSub, Nat.reduceLeDiff, Nat.reduceLT]
   rw [st, stA { a with sa := t'.sa, sc := t'.sc, pc := 3 } hd (by decide) rfl]
   exact behind hN hd fun υ u1 u2 u3 => k1 rfl o υ u1 u2 (hK2.trans (u3.mono hpL))
  | false =>
   simp only [o, gs, sb2, ruS, ruL, ruE, Nat.reduceAdd, reduceIte, Int.reduceLT, Int.reduceLE, Int.reduceEq, Int.reduceNeg, Int.reduceAdd, Int.reduceSub, Nat.reduceLeDiff, Nat.reduceLT]
   rw [st, stA { a with sa := 0, sc := 0, pc := 3 } hd (by decide) rfl, c_end hd]
   rw [ldA (a := { a with sa := 0, sc := 0, pc := 3, oE := 6, oH := 0, oV := 0, oS := A'.s }) hd (show sub _ 8 1 false = some (.int .i64 a.at') from rfl)]
   refine behind (K := fun _ σ => s_c6 [.int .i64 a.at'] _ σ) (v := undef) hN hd fun υ u1 u2 u3 => ?_
   refine c_NewGive fun id ω hid gid x => ?_
   have hx1 := u1.ext x
   have hx2 := x _ _ u2
   have ip : id ≠ p := by rintro rfl; rw [u2] at hid; cases hid
   have inn := u1.new hid
   rw [hx1.obj hx2, stAp { a with sa := 0, sc := 0, pc := 3, oE := 6, oH := 0, oV := 0, oS := A'.s, g := some id } hd (by decide) rfl, stA { a with sa := 0, sc := 0, pc := 7, oE := 6, oH := 0, oV := 0, oS := A'.s, g := some id } hd (by decide) rfl]
   have kall : Keep (q :: p :: N.l) σ υ := hK2.trans (u3.mono hpL)
   have iq : id ≠ q := by
    rintro rfl
    rw [u3 _ _ hq' (by simp only [List.mem_cons, not_or]; exact ⟨hqp, hqd⟩)] at hid; cases hid
   have ids : σ.get id = none := by
    cases e : σ.get id with
    | none => rfl
    | some b => rw [kall id b e (by simp only [List.mem_cons, not_or]; exact ⟨iq, ip, inn⟩)] at hid; cases hid
   refine behind hN hd fun ρ r1 r2 r3 => k2 rfl o id ρ ids inn ip r1 r2 ?_ ((kall.trans x.keep).trans (r3.mono hpL))
   exact r3 id _ gid (by simp only [List.mem_cons, not_or]; exact ⟨ip, inn⟩)
end Go.Fl
namespace Go.Fl
open Go
set_option linter.unusedVariables false
set_option linter.unusedSimpArgs false
variable {N : Nm} {A B : Ar} {σ : Mem} {K : Value → Mem → Prop} {C : Cf} {who : Int}
structure Dr where
 n : Int
 own : Bool
 hs : Int
 hg : Int
 pc : Int
 w : Int
 size : Int
 help : Option Nat
 give : Option Nat
 oE : Int
 oH : Int
 oV : Int
 oS : Int
def Dr.l (a : Dr) : List Value := [.int .u64 a.n, .bool a.own, .int .i64 a.hs, .int .i64 a.hg, .int .i64 a.pc, .int .u64 a.w, .int .i64 a.size, obP a.help, obP a.give, .int .i64 a.oE, .int .u64 a.oH, .int .i64 a.oV, .int .i64 a.oS]
def Dr.new (n : Int) (own : Bool) : Dr := ⟨n, own, 0, 0, 0, 0, 0, none, none, 0, 0, 0, 0⟩
def lives (w g : Int) : Prop := (slS w = 1 ∨ slS w = 2 ∨ slS w = 4) ∧ slG w = g
instance (w g : Int) : Decidable (lives w g) := inferInstanceAs (Decidable (_ ∧ _))
theorem ldD {p k sz : Nat} {ag : Bool} {a : Dr} {v : Value} (hd : p ∉ N.l) (h : sub a.l k sz ag = some v) : hLoad sz ag [.pointer (some ⟨p, k, none⟩)] K (putA N A (σ.set p ⟨a.l, true⟩)) = K v (putA N A (σ.set p ⟨a.l, true⟩)) := by
 rw [hLoad_eq ((putA_get hd).trans (Mem.get_set_same _ _ _)), h, xOs]
theorem ldG {L : List Value} {p k sz : Nat} {ag : Bool} {v : Value} (hp : σ.get p = some ⟨L, true⟩) (h : sub L k sz ag = some v) : hLoad sz ag [.pointer (some ⟨p, k, none⟩)] K σ = K v σ := by
 rw [hLoad_eq hp, h, xOs]
theorem stD {p k : Nat} {a : Dr} (a' : Dr) {x : Value} (hd : p ∉ N.l) (hx : cellsOf x 1 = some [x]) (ho : oneB x = true) (hk : k + 1 ≤ 13) (e : lay a.l k [x] = a'.l) :
  hStore 1 [.pointer (some ⟨p, k, none⟩), x] K (putA N A (σ.set p ⟨a.l, true⟩)) = K undef (putA N A (σ.set p ⟨a'.l, true⟩)) := by
 have := stO (K := K) (N := N) (A := A) (σ := σ) (p := p) (pre := []) (L := a.l) (post := []) (k := k) (sz := 1) (x := x) (c := [x]) hd hx rfl hk (by simp [ho])
 rw [e] at this
 simpa only [List.nil_append, List.append_nil, List.length_nil, Nat.zero_add] using this
theorem stDa {p k sz : Nat} {a : Dr} (a' : Dr) {c : List Value} (hd : p ∉ N.l) (hl : c.length = sz) (ho : c.all oneB = true) (hk : k + sz ≤ 13) (e : lay a.l k c = a'.l) :
  hStore sz [.pointer (some ⟨p, k, none⟩), .agg c.toArray] K (putA N A (σ.set p ⟨a.l, true⟩)) = K undef (putA N A (σ.set p ⟨a'.l, true⟩)) := by
 have := stOa (K := K) (N := N) (A := A) (σ := σ) (p := p) (pre := []) (L := a.l) (post := []) (k := k) (sz := sz) (c := c) hd hl hk ho
 rw [e] at this
 simpa only [List.nil_append, List.append_nil, List.length_nil, Nat.zero_add] using this
theorem c_DropNew {n : Int} {o : Bool} (hk : ∀ id τ, σ.get id = none → τ.get id = some ⟨(Dr.new n o).l, true⟩ → Ext σ τ → K (.pointer (some ⟨id, 0, none⟩)) τ) : s_a4 [.int .u64 n, .bool o] K σ := by
 have b : ∀ K : Value → Prop, xF (fBuild [(0, 1), (1, 1), (2, 2), (4, 1), (5, 1), (6, 1), (7, 1), (8, 1), (9, 4)] [(.int .u64 0), (.bool false), (.int .i64 0), (.int .i64 0), (.int .i64 0), (.int .u64 0), (.int .i64 0), (.pointer none), (.pointer none), (.int .i64 0), (.int .u64 0), (.int .i64 0), (.int .i64 0)] [0, 1]) [.int .u64 n, .bool o] K =
   K (.agg (Dr.new n o).l.toArray) := fun K => nr rfl
 simp only [s_a4, w_a4, b, ruS, Nat.reduceAdd, reduceIte, Int.reduceLT, Int.reduceLE, Int.reduceEq, Int.reduceNeg, Int.reduceAdd, Int.reduceSub]
 exact hBox_i (cs := (Dr.new n o).l) rfl hk
theorem c_Live {st ad ge ve s g : Int} : s_a3 [.agg #[.int .i64 st, .int .i64 ad, .int .i64 ge, .int .i64 ve], .agg #[.int .i64 s, .int .i64 g]] K σ = K (.bool (decide ((st = 1 ∨ st = 2 ∨ st = 4) ∧ ge = g))) σ := by
 simp only [s_a3, w_a3, ruS, ruL, ruX, Nat.reduceAdd, reduceIte, Int.reduceLT, Int.reduceLE, Int.reduceEq, Int.reduceNeg, Int.reduceAdd, Int.reduceSub, Nat.reduceLeDiff]
 by_cases h1 : st = 1
 ·simp [h1, xPickT, xIfT, xIfF, xMove, xIfB]
 ·by_cases h2 : st = 2
  ·simp [h1, h2, xPickT, xPickF, xIfT, xIfF, xMove, xIfB]
  ·by_cases h4 : st = 4
   ·simp [h1, h2, h4, xPickT, xPickF, xIfT, xIfF, xMove, xIfB]
   ·simp [h1, h2, h4, xPickT, xPickF, xIfT, xIfF, xMove, xIfB]
theorem c_WhenA (hN : N.ok) (hA : isA N A σ) {a : Int} (h0 : 0 ≤ a) (h1 : a < A.n) : s_cg [N.p, .int .i64 a] K σ = K (.int .i64 (A.t a)) σ := by
 rw [hA.eq]
 simp only [s_cg, w_cg, w_cg_j1, w_cg_j1b, Nm.p, ldM0, ldM1, ruS, Nat.reduceAdd, reduceIte, Int.reduceLT, Int.reduceLE, Int.reduceEq, Int.reduceNeg, Int.reduceAdd, Int.reduceSub]
 rw [if_neg (by omega), if_neg (by omega)]
 simp only [xIxS h0 h1, Nat.zero_add]
 rw [ldT hN h0 h1]
theorem c_DropDone (hA : isA N A σ) {p : Nat} {a : Dr} (hp : σ.get p = some ⟨a.l, true⟩) (hk : K (.agg #[.int .i64 a.oE, .int .u64 a.oH, .int .i64 a.oV, .int .i64 a.oS]) σ) : s_ax [.pointer (some ⟨p, 0, none⟩)] K σ := by
 have gs : ∀ x y z w : Int, gStore 4 [.pointer (some ⟨2, 0, some 0⟩), .agg #[.int .i64 x, .int .u64 y, .int .i64 z, .int .i64 w]] [.int .i64 0, .int .u64 0, .int .i64 0, .int .i64 0] = some [.int .i64 x, .int .u64 y, .int .i64 z, .int .i64 w] := fun _ _ _ _ => rfl
 simp only [s_ax, w_ax, ruS, ruL, ruE, Nat.reduceAdd, reduceIte, Int.reduceLT, Int.reduceLE, Int.reduceEq, Int.reduceNeg, Int.reduceAdd, Int.reduceSub, Nat.reduceLeDiff, Nat.reduceLT]
 rw [ldG hp (show sub a.l 9 4 true = some (.agg #[.int .i64 a.oE, .int .u64 a.oH, .int .i64 a.oV, .int .i64 a.oS]) from rfl)]
 simp only [gs, sub4, ruS, ruL, ruE, Nat.reduceAdd, reduceIte, Int.reduceLT, Int.reduceLE, Int.reduceEq, Int.reduceNeg, Int.reduceAdd, Int.reduceSub, Nat.reduceLeDiff, Nat.reduceLT]
 exact hk
theorem c_Dinv {p : Nat} {a : Dr} (hd : p ∉ N.l) : s_a0 [.pointer (some ⟨p, 0, none⟩), N.env C who] K (putA N A (σ.set p ⟨a.l, true⟩)) = K (.bool true) (putA N A (σ.set p ⟨({ a with oE := 3, oH := 0, oV := 0, oS := A.s } : Dr).l, true⟩)) := by
 have b : ∀ (c : Int) (K : Value → Prop), xF (fBuild [(0, 1), (1, 1), (2, 1), (3, 1)] [.int .i64 0, .int .u64 0, .int .i64 0, .int .i64 0] [0, 3]) [.int .i64 3, .int .i64 c] K = K (.agg #[.int .i64 3, .int .u64 0, .int .i64 0, .int .i64 c]) := fun _ K => nr rfl
 simp only [s_a0, w_a0, ruS, ruL, ruE, Nat.reduceAdd, reduceIte, Int.reduceLT, Int.reduceLE, Int.reduceEq, Int.reduceNeg, Int.reduceAdd, Int.reduceSub, Nat.reduceLeDiff, Nat.reduceLT]
 rw [c_Now, b]
 have := stDa (K := fun _ σ => K (.bool true) σ) (N := N) (A := A) (σ := σ) (p := p) (a := a) { a with oE := 3, oH := 0, oV := 0, oS := A.s } (c := [.int .i64 3, .int .u64 0, .int .i64 0, .int .i64 A.s]) (sz := 4) (k := 9) hd rfl rfl (by decide) rfl
 exact this
theorem c_Dr0 (hN : N.ok) (hC : C.ok) (hA : isA N A σ) {p : Nat} {a : Dr} (hp : σ.get p = some ⟨a.l, true⟩) (hd : p ∉ N.l) (hw : ∀ i, 0 ≤ A.w i ∧ A.w i < 18446744073709551616) (hn : C.len ≤ A.n) (h : a.pc = 0) (h1 : 0 ≤ a.n ∧ a.n < 18446744073709551616) (h2 : 0 ≤ a.hs ∧ a.hs ≤ 65536)
  (k0 : hdOk a.n = false ∨ C.S ≤ hdSl a.n → ∀ τ, isA N A τ → τ.get p = some ⟨({ a with hs := hdSl a.n, hg := hdGe a.n, oE := 3, oH := 0, oV := 0, oS := A.s } : Dr).l, true⟩ → Keep (p :: N.l) σ τ → K (.bool true) τ)
  (k1 : hdOk a.n = true → hdSl a.n < C.S → ¬ lives (A.w (C.slot (hdSl a.n))) (hdGe a.n) → ∀ τ, isA N ((A.by who).load (C.slot (hdSl a.n))) τ → τ.get p = some ⟨({ a with hs := hdSl a.n, hg := hdGe a.n, w := A.w (C.slot (hdSl a.n)), oE := 3, oH := 0, oV := 0, oS := ((A.by who).load (C.slot (hdSl a.n))).s } : Dr).l, true⟩ → Keep (p :: N.l) σ τ → K (.bool true) τ)
  (k2 : hdOk a.n = true → hdSl a.n < C.S → lives (A.w (C.slot (hdSl a.n))) (hdGe a.n) → ∀ τ, isA N ((A.by who).load (C.slot (hdSl a.n))) τ → τ.get p = some ⟨({ a with hs := hdSl a.n, hg := hdGe a.n, w := A.w (C.slot (hdSl a.n)), pc := 1 } : Dr).l, true⟩ → Keep (p :: N.l) σ τ → K (.bool false) τ) :
  s_ay [.pointer (some ⟨p, 0, none⟩), N.env C who] K σ := by
 have hT := hC.T; have hS := hC.S; have hC3 := hC.C; have hl := len_bd hC
 have hch : C.chunk C.C = 6 + C.T + 2 * C.S + 3 * C.C := rfl
 obtain ⟨b1, b2⟩ := hdSl_bd h1.1
 rw [hA.obj hp]
 have g2 : ∀ (k : Nat) (x y : Int), gStore 2 [.pointer (some ⟨k, 0, some 0⟩), .agg #[.int .i64 x, .int .i64 y]] [.int .i64 0, .int .i64 0] = some [.int .i64 x, .int .i64 y] := fun _ _ _ => rfl
 have s2 : ∀ x y : Value, sub [x, y] 0 2 true = some (.agg #[x, y]) := fun _ _ => rfl
 simp only [s_ay, w_ay, w_ay_j1, w_ay_j1b, ruS, ruL, ruE, Nat.reduceAdd, reduceIte, Int.reduceLT, Int.reduceLE, Int.reduceEq, Int.reduceNeg, Int.reduceAdd, Int.reduceSub, Nat.reduceLeDiff, Nat.reduceLT]
 rw [ldD hd (show sub _ 2 1 false = some (.int .i64 a.hs) from rfl), c_Slot hC h2.1 h2.2, ldD hd (show sub _ 4 1 false = some (.int .i64 a.pc) from rfl)]
 simp only [h, s_a1, w_a1, ruS, ruL, ruE, Nat.reduceAdd, reduceIte, Int.reduceLT, Int.reduceLE, Int.reduceEq, Int.reduceNeg, Int.reduceAdd, Int.reduceSub, Nat.reduceLeDiff, Nat.reduceLT]
 rw [ldD hd (show sub _ 0 1 false = some (.int .u64 a.n) from rfl), c_wHandleG h1.1 h1.2]
 simp only [g2, s2, w_a1_j1, w_a1_j1b, ruS, ruL, ruE, Nat.reduceAdd, reduceIte, Int.reduceLT, Int.reduceLE, Int.reduceEq, Int.reduceNeg, Int.reduceAdd, Int.reduceSub, Nat.reduceLeDiff, Nat.reduceLT]
 have st2 : ∀ K : Value → Mem → Prop, hStore 2 [.pointer (some ⟨p, 2, none⟩), .agg #[.int .i64 (hdSl a.n), .int .i64 (hdGe a.n)]] K (putA N A (σ.set p ⟨a.l, true⟩)) = K undef (putA N A (σ.set p ⟨({ a with hs := hdSl a.n, hg := hdGe a.n } : Dr).l, true⟩)) :=
  fun K => stDa (a := a) { a with hs := hdSl a.n, hg := hdGe a.n } (c := [.int .i64 (hdSl a.n), .int .i64 (hdGe a.n)]) (sz := 2) (k := 2) hd rfl rfl (by decide) rfl
 rw [st2]
 cases hO : hdOk a.n with
 | false =>
  simp only [ruS, ruL, ruE, Nat.reduceAdd, reduceIte, Int.reduceLT, Int.reduceLE, Int.reduceEq, Int.reduceNeg, Int.reduceAdd, Int.reduceSub, Nat.reduceLeDiff, Nat.reduceLT]
  rw [c_Dinv hd]
  exact behind hN hd (k0 (.inl hO))
 | true =>
  by_cases hs : C.S ≤ hdSl a.n
  ·simp only [hs, ruS, ruL, ruE, Nat.reduceAdd, reduceIte, Int.reduceLT, Int.reduceLE, Int.reduceEq, Int.reduceNeg, Int.reduceAdd, Int.reduceSub, Nat.reduceLeDiff, Nat.reduceLT]
   rw [c_Dinv hd]
   exact behind hN hd (k0 (.inr hs))
  ·have hsb : 0 ≤ C.slot (hdSl a.n) ∧ C.slot (hdSl a.n) < A.n := by unfold Cf.slot; omega
   have hwa := hw (C.slot (hdSl a.n))
   simp only [hs, ruS, ruL, ruE, Nat.reduceAdd, reduceIte, Int.reduceLT, Int.reduceLE, Int.reduceEq, Int.reduceNeg, Int.reduceAdd, Int.reduceSub, Nat.reduceLeDiff, Nat.reduceLT]
   rw [c_Slot hC b1.1 (by omega), c_Load hN hsb.1 hsb.2, stD { a with hs := hdSl a.n, hg := hdGe a.n, w := A.w (C.slot (hdSl a.n)) } hd rfl rfl (by decide) rfl]
   rw [ldD (a := { a with hs := hdSl a.n, hg := hdGe a.n, w := A.w (C.slot (hdSl a.n)) }) hd (show sub _ 5 1 false = some (.int .u64 (A.w (C.slot (hdSl a.n)))) from rfl), c_wSlot hwa.1 hwa.2, c_Live]
   by_cases hl' : lives (A.w (C.slot (hdSl a.n))) (hdGe a.n)
   ·have e : decide ((slS (A.w (C.slot (hdSl a.n))) = 1 ∨ slS (A.w (C.slot (hdSl a.n))) = 2 ∨ slS (A.w (C.slot (hdSl a.n))) = 4) ∧ slG (A.w (C.slot (hdSl a.n))) = hdGe a.n) = true := decide_eq_true hl'
    simp only [e, ruS, ruL, ruE, Nat.reduceAdd, reduceIte, Int.reduceLT, Int.reduceLE, Int.reduceEq, Int.reduceNeg, Int.reduceAdd, Int.reduceSub, Nat.reduceLeDiff, Nat.reduceLT]
    rw [stD { a with hs := hdSl a.n, hg := hdGe a.n, w := A.w (C.slot (hdSl a.n)), pc := 1 } hd rfl rfl (by decide) rfl]
    exact behind hN hd (k2 hO (by omega) hl')
   ·have e : decide ((slS (A.w (C.slot (hdSl a.n))) = 1 ∨ slS (A.w (C.slot (hdSl a.n))) = 2 ∨ slS (A.w (C.slot (hdSl a.n))) = 4) ∧ slG (A.w (C.slot (hdSl a.n))) = hdGe a.n) = false := decide_eq_false hl'
    simp only [e, ruS, ruL, ruE, Nat.reduceAdd, reduceIte, Int.reduceLT, Int.reduceLE, Int.reduceEq, Int.reduceNeg, Int.reduceAdd, Int.reduceSub, Nat.reduceLeDiff, Nat.reduceLT]
    rw [c_Dinv hd]
    exact behind hN hd (k1 hO (by omega) hl')
theorem c_Dr1 (hN : N.ok) (hC : C.ok) (hA : isA N A σ) {p : Nat} {a : Dr} (hp : σ.get p = some ⟨a.l, true⟩) (hd : p ∉ N.l) (hw : ∀ i, 0 ≤ A.w i ∧ A.w i < 18446744073709551616) (h : a.pc = 1) (h2 : 0 ≤ a.hs ∧ a.hs ≤ 65536) (h3 : 0 ≤ a.w ∧ a.w < 18446744073709551616) (h4 : slA a.w < A.n)
  (k0 : hdO (A.w (slA a.w)) ≠ a.own → ∀ τ, isA N ((A.by who).load (slA a.w)) τ → τ.get p = some ⟨({ a with oE := 3, oH := 0, oV := 0, oS := ((A.by who).load (slA a.w)).s } : Dr).l, true⟩ → Keep (p :: N.l) σ τ → K (.bool true) τ)
  (k1 : hdO (A.w (slA a.w)) = a.own → slS a.w ≠ 4 → ∀ τ, isA N ((A.by who).load (slA a.w)) τ → τ.get p = some ⟨({ a with size := hdS (A.w (slA a.w)), pc := 2 } : Dr).l, true⟩ → Keep (p :: N.l) σ τ → K (.bool false) τ)
  (k2 : hdO (A.w (slA a.w)) = a.own → slS a.w = 4 → ∀ q τ, σ.get q = none → q ≠ p → isA N ((A.by who).load (slA a.w)) τ → τ.get p = some ⟨({ a with size := hdS (A.w (slA a.w)), pc := 4, help := some q } : Dr).l, true⟩ →
   τ.get q = some ⟨(Hl.new a.hs a.w (hdS (A.w (slA a.w)))).l, true⟩ → Keep (p :: N.l) σ τ → K (.bool false) τ) :
  s_ay [.pointer (some ⟨p, 0, none⟩), N.env C who] K σ := by
 have hb := slA_bd a.w
 have hwa := hw (slA a.w)
 rw [hA.obj hp]
 have g5 : ∀ (k : Nat) (x y z w : Int) (b : Bool), gStore 5 [.pointer (some ⟨k, 0, some 0⟩), .agg #[.int .i64 x, .int .i64 y, .int .i64 z, .int .i64 w, .bool b]] [.int .i64 0, .int .i64 0, .int .i64 0, .int .i64 0, .bool false] = some [.int .i64 x, .int .i64 y, .int .i64 z, .int .i64 w, .bool b] := fun _ _ _ _ _ _ => rfl
 simp only [s_ay, w_ay, w_ay_j1, w_ay_j1b, ruS, ruL, ruE, Nat.reduceAdd, reduceIte, Int.reduceLT, Int.reduceLE, Int.reduceEq, Int.reduceNeg, Int.reduceAdd, Int.reduceSub, Nat.reduceLeDiff, Nat.reduceLT]
 rw [ldD hd (show sub _ 2 1 false = some (.int .i64 a.hs) from rfl), c_Slot hC h2.1 h2.2, ldD hd (show sub _ 4 1 false = some (.int .i64 a.pc) from rfl)]
 simp only [h, ruS, ruL, ruE, Nat.reduceAdd, reduceIte, Int.reduceLT, Int.reduceLE, Int.reduceEq, Int.reduceNeg, Int.reduceAdd, Int.reduceSub, Nat.reduceLeDiff, Nat.reduceLT]
 rw [ldD hd (show sub _ 5 1 false = some (.int .u64 a.w) from rfl), c_wSlot h3.1 h3.2]
 simp only [xFldV, List.toList_toArray, ruS, ruL, ruE, Nat.reduceAdd, reduceIte, Int.reduceLT, Int.reduceLE, Int.reduceEq, Int.reduceNeg, Int.reduceAdd, Int.reduceSub, Nat.reduceLeDiff, Nat.reduceLT]
 rw [c_Load hN hb.1 h4, c_wHead hwa.1 hwa.2]
 simp only [g5, ruS, ruL, ruE, Nat.reduceAdd, reduceIte, Int.reduceLT, Int.reduceLE, Int.reduceEq, Int.reduceNeg, Int.reduceAdd, Int.reduceSub, Nat.reduceLeDiff, Nat.reduceLT]
 rw [ldD hd (show sub _ 1 1 false = some (.bool a.own) from rfl)]
 by_cases e : hdO (A.w (slA a.w)) = a.own
 ·simp only [e, beq_self_eq_true, ruS, ruL, ruE, Nat.reduceAdd, reduceIte, Int.reduceLT, Int.reduceLE, Int.reduceEq, Int.reduceNeg, Int.reduceAdd, Int.reduceSub, Nat.reduceLeDiff, Nat.reduceLT]
  rw [stD { a with size := hdS (A.w (slA a.w)) } hd rfl rfl (by decide) rfl, stD { a with size := hdS (A.w (slA a.w)), pc := 2 } hd rfl rfl (by decide) rfl,
   ldD (a := { a with size := hdS (A.w (slA a.w)), pc := 2 }) hd (show sub _ 5 1 false = some (.int .u64 a.w) from rfl), c_wSlot h3.1 h3.2]
  simp only [xFldV, List.toList_toArray, ruS, ruL, ruE, Nat.reduceAdd, reduceIte, Int.reduceLT, Int.reduceLE, Int.reduceEq, Int.reduceNeg, Int.reduceAdd, Int.reduceSub, Nat.reduceLeDiff, Nat.reduceLT]
  by_cases q : slS a.w = 4
  ·simp only [q, ruS, ruL, ruE, Nat.reduceAdd, reduceIte, Int.reduceLT, Int.reduceLE, Int.reduceEq, Int.reduceNeg, Int.reduceAdd, Int.reduceSub, Nat.reduceLeDiff, Nat.reduceLT]
   rw [ldD (a := { a with size := hdS (A.w (slA a.w)), pc := 2 }) hd (show sub _ 2 1 false = some (.int .i64 a.hs) from rfl), ldD (a := { a with size := hdS (A.w (slA a.w)), pc := 2 }) hd (show sub _ 5 1 false = some (.int .u64 a.w) from rfl),
    ldD (a := { a with size := hdS (A.w (slA a.w)), pc := 2 }) hd (show sub _ 6 1 false = some (.int .i64 (hdS (A.w (slA a.w)))) from rfl)]
   refine behind (K := fun _ σ => s_a5 [.int .i64 a.hs, .int .u64 a.w, .int .i64 (hdS (A.w (slA a.w)))] _ σ) (v := undef) hN hd fun υ u1 u2 u3 => ?_
   refine c_NewHelp fun id ω hid gid x => ?_
   have hx1 := u1.ext x
   have hx2 := x _ _ u2
   have ip : id ≠ p := by rintro rfl; rw [u2] at hid; cases hid
   have inn := u1.new hid
   have ids : σ.get id = none := by
    cases e : σ.get id with
    | none => rfl
    | some b => rw [u3 id b e (by simp only [List.mem_cons, not_or]; exact ⟨ip, inn⟩)] at hid; cases hid
   rw [hx1.obj hx2, stD { a with size := hdS (A.w (slA a.w)), pc := 2, help := some id } hd rfl rfl (by decide) rfl, stD { a with size := hdS (A.w (slA a.w)), pc := 4, help := some id } hd rfl rfl (by decide) rfl]
   refine behind hN hd fun ρ r1 r2 r3 => k2 e q id ρ ids ip r1 r2 ?_ ((u3.trans x.keep).trans r3)
   exact r3 id _ gid (by simp only [List.mem_cons, not_or]; exact ⟨ip, inn⟩)
  ·simp only [q, ruS, ruL, ruE, Nat.reduceAdd, reduceIte, Int.reduceLT, Int.reduceLE, Int.reduceEq, Int.reduceNeg, Int.reduceAdd, Int.reduceSub, Nat.reduceLeDiff, Nat.reduceLT]
   exact behind hN hd (k1 e q)
 ·have e' : (hdO (A.w (slA a.w)) == a.own) = false := by simpa using e
  simp only [e', ruS, ruL, ruE, Nat.reduceAdd, reduceIte, Int.reduceLT, Int.reduceLE, Int.reduceEq, Int.reduceNeg, Int.reduceAdd, Int.reduceSub, Nat.reduceLeDiff, Nat.reduceLT]
  rw [c_Dinv hd]
  exact behind hN hd (k0 e)
theorem c_Dr2 (hN : N.ok) (hC : C.ok) (hA : isA N A σ) {p : Nat} {a : Dr} (hp : σ.get p = some ⟨a.l, true⟩) (hd : p ∉ N.l) (hn : C.len ≤ A.n) (h : a.pc = 2) (h2 : 0 ≤ a.hs ∧ a.hs < C.S) (h3 : 0 ≤ a.w ∧ a.w < 18446744073709551616)
  (k0 : A.w (C.slot a.hs) ≠ a.w → ∀ τ, isA N ((A.by who).cas (C.slot a.hs) a.w (putSlot 4 (slA a.w) (slG a.w) (slV a.w + 1))) τ → τ.get p = some ⟨({ a with pc := 0 } : Dr).l, true⟩ → Keep (p :: N.l) σ τ → K (.bool false) τ)
  (k1 : A.w (C.slot a.hs) = a.w → ∀ q τ, σ.get q = none → q ≠ p → isA N ((A.by who).cas (C.slot a.hs) a.w (putSlot 4 (slA a.w) (slG a.w) (slV a.w + 1))) τ → τ.get p = some ⟨({ a with pc := 3, help := some q } : Dr).l, true⟩ →
   τ.get q = some ⟨(Hl.new a.hs (putSlot 4 (slA a.w) (slG a.w) (slV a.w + 1)) a.size).l, true⟩ → Keep (p :: N.l) σ τ → K (.bool false) τ) :
  s_ay [.pointer (some ⟨p, 0, none⟩), N.env C who] K σ := by
 have hT := hC.T; have hS := hC.S; have hC3 := hC.C; have hl := len_bd hC
 have hch : C.chunk C.C = 6 + C.T + 2 * C.S + 3 * C.C := rfl
 have hV := slV_bd a.w
 have hsb : 0 ≤ C.slot a.hs ∧ C.slot a.hs < A.n := by unfold Cf.slot; omega
 rw [hA.obj hp]
 have g4 : ∀ (k : Nat) (x y z w : Int), gStore 4 [.pointer (some ⟨k, 0, some 0⟩), .agg #[.int .i64 x, .int .i64 y, .int .i64 z, .int .i64 w]] [.int .i64 0, .int .i64 0, .int .i64 0, .int .i64 0] = some [.int .i64 x, .int .i64 y, .int .i64 z, .int .i64 w] := fun _ _ _ _ _ => rfl
 simp only [s_ay, w_ay, w_ay_j1, w_ay_j1b, ruS, ruL, ruE, Nat.reduceAdd, reduceIte, Int.reduceLT, Int.reduceLE, Int.reduceEq, Int.reduceNeg, Int.reduceAdd, Int.reduceSub, Nat.reduceLeDiff, Nat.reduceLT]
 rw [ldD hd (show sub _ 2 1 false = some (.int .i64 a.hs) from rfl), c_Slot hC h2.1 (by omega), ldD hd (show sub _ 4 1 false = some (.int .i64 a.pc) from rfl)]
 simp only [h, s_az, w_az, ruS, ruL, ruE, Nat.reduceAdd, reduceIte, Int.reduceLT, Int.reduceLE, Int.reduceEq, Int.reduceNeg, Int.reduceAdd, Int.reduceSub, Nat.reduceLeDiff, Nat.reduceLT]
 rw [ldD hd (show sub _ 5 1 false = some (.int .u64 a.w) from rfl), c_wSlot h3.1 h3.2]
 simp only [g4, ruS, ruL, ruE, Nat.reduceAdd, reduceIte, Int.reduceLT, Int.reduceLE, Int.reduceEq, Int.reduceNeg, Int.reduceAdd, Int.reduceSub, Nat.reduceLeDiff, Nat.reduceLT]
 rw [IntWalk.i64_in (slV a.w + 1) (by omega), stD { a with pc := 0 } hd rfl rfl (by decide) rfl]
 simp only [sub4, ruS, ruL, ruE, Nat.reduceAdd, reduceIte, Int.reduceLT, Int.reduceLE, Int.reduceEq, Int.reduceNeg, Int.reduceAdd, Int.reduceSub, Nat.reduceLeDiff, Nat.reduceLT]
 rw [c_PutSlot, ldD (a := { a with pc := 0 }) hd (show sub _ 2 1 false = some (.int .i64 a.hs) from rfl), c_Slot hC h2.1 (by omega), ldD (a := { a with pc := 0 }) hd (show sub _ 5 1 false = some (.int .u64 a.w) from rfl), c_Cas hN hsb.1 hsb.2]
 by_cases e : A.w (C.slot a.hs) = a.w
 ·simp only [e, ruS, ruL, ruE, Nat.reduceAdd, reduceIte, Int.reduceLT, Int.reduceLE, Int.reduceEq, Int.reduceNeg, Int.reduceAdd, Int.reduceSub, Nat.reduceLeDiff, Nat.reduceLT]
  replace k1 := k1 e
  generalize (A.by who).cas (C.slot a.hs) a.w (putSlot 4 (slA a.w) (slG a.w) (slV a.w + 1)) = A' at *
  rw [ldD (a := { a with pc := 0 }) hd (show sub _ 2 1 false = some (.int .i64 a.hs) from rfl), ldD (a := { a with pc := 0 }) hd (show sub _ 6 1 false = some (.int .i64 a.size) from rfl)]
  refine behind (K := fun _ σ => s_a5 [.int .i64 a.hs, .int .u64 _, .int .i64 a.size] _ σ) (v := undef) hN hd fun υ u1 u2 u3 => ?_
  refine c_NewHelp fun id ω hid gid x => ?_
  have hx1 := u1.ext x
  have hx2 := x _ _ u2
  have ip : id ≠ p := by rintro rfl; rw [u2] at hid; cases hid
  have inn := u1.new hid
  have ids : σ.get id = none := by
   cases e : σ.get id with
   | none => rfl
   | some b => rw [u3 id b e (by simp only [List.mem_cons, not_or]; exact ⟨ip, inn⟩)] at hid; cases hid
  rw [hx1.obj hx2, stD { a with pc := 0, help := some id } hd rfl rfl (by decide) rfl, stD { a with pc := 3, help := some id } hd rfl rfl (by decide) rfl]
  refine behind hN hd fun ρ r1 r2 r3 => k1 id ρ ids ip r1 r2 ?_ ((u3.trans x.keep).trans r3)
  exact r3 id _ gid (by simp only [List.mem_cons, not_or]; exact ⟨ip, inn⟩)
 ·simp only [e, ruS, ruL, ruE, Nat.reduceAdd, reduceIte, Int.reduceLT, Int.reduceLE, Int.reduceEq, Int.reduceNeg, Int.reduceAdd, Int.reduceSub, Nat.reduceLeDiff, Nat.reduceLT]
  exact behind hN hd (k0 e)
theorem c_Dr34 (hN : N.ok) (hC : C.ok) (hA : isA N A σ) {p q : Nat} {a : Dr} {t : Hl} (hp : σ.get p = some ⟨a.l, true⟩) (hd : p ∉ N.l) (hq : σ.get q = some ⟨[] ++ t.l ++ [], true⟩) (hqd : q ∉ N.l) (hqp : q ≠ p) (hw : ∀ i, 0 ≤ A.w i ∧ A.w i < 18446744073709551616) (hn : C.len ≤ A.n)
  (h : a.pc = 3 ∨ a.pc = 4) (ha : a.help = some q) (h2 : 0 ≤ a.hs ∧ a.hs < C.S) (hf : t.fit C)
  (k0 : (t.step C who A).1 = false → ∀ τ, isA N (t.step C who A).2.2 τ → τ.get p = some ⟨a.l, true⟩ → τ.get q = some ⟨[] ++ (t.step C who A).2.1.l ++ [], true⟩ → Keep (q :: p :: N.l) σ τ → K (.bool false) τ)
  (k1 : (t.step C who A).1 = true → a.pc = 3 → ∀ τ, isA N (t.step C who A).2.2 τ → τ.get p = some ⟨({ a with oE := 0, oH := 0, oV := 0, oS := (t.step C who A).2.2.t (C.slot a.hs), pc := 5 } : Dr).l, true⟩ → Keep (q :: p :: N.l) σ τ → K (.bool false) τ)
  (k2 : (t.step C who A).1 = true → a.pc = 4 → ∀ τ, isA N (t.step C who A).2.2 τ → τ.get p = some ⟨({ a with pc := 0 } : Dr).l, true⟩ → Keep (q :: p :: N.l) σ τ → K (.bool false) τ) :
  s_ay [.pointer (some ⟨p, 0, none⟩), N.env C who] K σ := by
 have hT := hC.T; have hS := hC.S; have hC3 := hC.C; have hl := len_bd hC
 have hch : C.chunk C.C = 6 + C.T + 2 * C.S + 3 * C.C := rfl
 have hsn : 0 ≤ C.slot a.hs ∧ C.slot a.hs < A.n := by unfold Cf.slot; omega
 have hsb := hsn
 have hA'n : (t.step C who A).2.2.n = A.n := by
  unfold Hl.step; repeat' split
  all_goals first | rfl | exact cas_n
 have hpL : ∀ i ∈ p :: N.l, i ∈ q :: p :: N.l := fun i hi => List.mem_cons_of_mem _ hi
 have hqL : ∀ i ∈ q :: N.l, i ∈ q :: p :: N.l := fun i hi => by rcases List.mem_cons.1 hi with rfl | hi <;> simp [*]
 have main : ∀ (τ : Mem), isA N (t.step C who A).2.2 τ → τ.get p = some ⟨a.l, true⟩ → Keep (q :: p :: N.l) σ τ → True := fun _ _ _ _ => trivial
 rw [hA.obj hp]
 simp only [s_ay, w_ay, w_ay_j1, w_ay_j1b, ruS, ruL, ruE, Nat.reduceAdd, reduceIte, Int.reduceLT, Int.reduceLE, Int.reduceEq, Int.reduceNeg, Int.reduceAdd, Int.reduceSub, Nat.reduceLeDiff, Nat.reduceLT]
 rw [ldD hd (show sub _ 2 1 false = some (.int .i64 a.hs) from rfl), c_Slot hC h2.1 (by omega), ldD hd (show sub _ 4 1 false = some (.int .i64 a.pc) from rfl)]
 rcases h with h | h
 ·simp only [h, ruS, ruL, ruE, Nat.reduceAdd, reduceIte, Int.reduceLT, Int.reduceLE, Int.reduceEq, Int.reduceNeg, Int.reduceAdd, Int.reduceSub, Nat.reduceLeDiff, Nat.reduceLT]
  rw [ldD hd (show sub _ 7 1 false = some (obP a.help) from rfl), ha, obP_s, ← hA.obj hp]
  refine c_Help_Step hN hC hA (t := t) (pre := []) (post := []) hq hqd hw hn hf fun τ hA' hq' hK => ?_
  replace k1 := fun d => k1 d h
  clear k2
  have hp' : τ.get p = some ⟨a.l, true⟩ := hK.get hp (by simp only [List.mem_cons, not_or]; exact ⟨fun e => hqp e.symm, hd⟩)
  have hK2 := hK.mono hqL
  generalize t.step C who A = r at *
  obtain ⟨d, t', A'⟩ := r
  dsimp only at *
  cases d with
  | false => simp only [ruS, ruL, ruE, Nat.reduceAdd, reduceIte, Int.reduceLT, Int.reduceLE, Int.reduceEq, Int.reduceNeg, Int.reduceAdd, Int.reduceSub, Nat.reduceLeDiff, Nat.reduceLT]; exact k0 rfl τ hA' hp' hq' hK2
  | true =>
   have b : ∀ (c : Int) (K : Value → Prop), xF (fBuild [(0, 1), (1, 1), (2, 1), (3, 1)] [.int .i64 0, .int .u64 0, .int .i64 0, .int .i64 0] [3]) [.int .i64 c] K = K (.agg #[.int .i64 0, .int .u64 0, .int .i64 0, .int .i64 c]) := fun _ K => nr rfl
   simp only [ruS, ruL, ruE, Nat.reduceAdd, reduceIte, Int.reduceLT, Int.reduceLE, Int.reduceEq, Int.reduceNeg, Int.reduceAdd, Int.reduceSub, Nat.reduceLeDiff, Nat.reduceLT]
   rw [c_WhenA hN hA' hsb.1 (by rw [hA'n]; exact hsb.2)]
   simp only [b, ruS, ruL, ruE, Nat.reduceAdd, reduceIte, Int.reduceLT, Int.reduceLE, Int.reduceEq, Int.reduceNeg, Int.reduceAdd, Int.reduceSub, Nat.reduceLeDiff, Nat.reduceLT]
   have st4 : ∀ K : Value → Mem → Prop, hStore 4 [.pointer (some ⟨p, 9, none⟩), .agg #[.int .i64 0, .int .u64 0, .int .i64 0, .int .i64 (A'.t (C.slot a.hs))]] K (putA N A' (τ.set p ⟨a.l, true⟩)) = K undef (putA N A' (τ.set p ⟨({ a with oE := 0, oH := 0, oV := 0, oS := A'.t (C.slot a.hs) } : Dr).l, true⟩)) :=
    fun K => stDa (a := a) { a with oE := 0, oH := 0, oV := 0, oS := A'.t (C.slot a.hs) } (c := [.int .i64 0, .int .u64 0, .int .i64 0, .int .i64 (A'.t (C.slot a.hs))]) (sz := 4) (k := 9) hd rfl rfl (by decide) rfl
   rw [hA'.obj hp', st4, stD { a with oE := 0, oH := 0, oV := 0, oS := A'.t (C.slot a.hs), pc := 5 } hd rfl rfl (by decide) rfl]
   exact behind hN hd fun υ u1 u2 u3 => k1 rfl υ u1 u2 (hK2.trans (u3.mono hpL))
 ·simp only [h, ruS, ruL, ruE, Nat.reduceAdd, reduceIte, Int.reduceLT, Int.reduceLE, Int.reduceEq, Int.reduceNeg, Int.reduceAdd, Int.reduceSub, Nat.reduceLeDiff, Nat.reduceLT]
  rw [ldD hd (show sub _ 7 1 false = some (obP a.help) from rfl), ha, obP_s, ← hA.obj hp]
  refine c_Help_Step hN hC hA (t := t) (pre := []) (post := []) hq hqd hw hn hf fun τ hA' hq' hK => ?_
  replace k2 := fun d => k2 d h
  clear k1
  have hp' : τ.get p = some ⟨a.l, true⟩ := hK.get hp (by simp only [List.mem_cons, not_or]; exact ⟨fun e => hqp e.symm, hd⟩)
  have hK2 := hK.mono hqL
  generalize t.step C who A = r at *
  obtain ⟨d, t', A'⟩ := r
  dsimp only at *
  cases d with
  | false => simp only [ruS, ruL, ruE, Nat.reduceAdd, reduceIte, Int.reduceLT, Int.reduceLE, Int.reduceEq, Int.reduceNeg, Int.reduceAdd, Int.reduceSub, Nat.reduceLeDiff, Nat.reduceLT]; exact k0 rfl τ hA' hp' hq' hK2
  | true =>
   simp only [ruS, ruL, ruE, Nat.reduceAdd, reduceIte, Int.reduceLT, Int.reduceLE, Int.reduceEq, Int.reduceNeg, Int.reduceAdd, Int.reduceSub, Nat.reduceLeDiff, Nat.reduceLT]
   rw [hA'.obj hp', stD { a with pc := 0 } hd rfl rfl (by decide) rfl]
   exact behind hN hd fun υ u1 u2 u3 => k2 rfl υ u1 u2 (hK2.trans (u3.mono hpL))
theorem c_Dr5 (hN : N.ok) (hC : C.ok) (hA : isA N A σ) {p : Nat} {a : Dr} (hp : σ.get p = some ⟨a.l, true⟩) (hd : p ∉ N.l) (hn : C.len ≤ A.n) (h : a.pc = 5) (h2 : 0 ≤ a.hs ∧ a.hs < C.S) (h3 : 0 ≤ a.w ∧ a.w < 18446744073709551616) (h4 : 0 ≤ classOf a.size) (h5 : 0 ≤ ofC C (slA a.w) ∧ ofC C (slA a.w) < C.C)
  (hk : ∀ q τ, σ.get q = none → q ≠ p → isA N ((A.by who).add (C.chunk (ofC C (slA a.w)) + 1) (IntKind.u64.wrap (-roomOf (classOf a.size)))) τ → τ.get p = some ⟨({ a with pc := 6, give := some q } : Dr).l, true⟩ →
   τ.get q = some ⟨(Gv.mk 0 a.hs 0).l, true⟩ → Keep (p :: N.l) σ τ → K (.bool (decide (C.G ≤ a.hg))) τ) :
  s_ay [.pointer (some ⟨p, 0, none⟩), N.env C who] K σ := by
 have hT := hC.T; have hS := hC.S; have hC3 := hC.C; have hl := len_bd hC
 have hch : C.chunk C.C = 6 + C.T + 2 * C.S + 3 * C.C := rfl
 have hcl3 : classOf a.size ≤ 3 := by unfold classOf; (repeat' split) <;> omega
 have hr := room_bd h4 hcl3
 have hcj : C.chunk (ofC C (slA a.w)) = 6 + C.T + 2 * C.S + 3 * ofC C (slA a.w) := rfl
 have hab := slA_bd a.w
 rw [hA.obj hp]
 simp only [s_ay, w_ay, w_ay_j1, w_ay_j1b, ruS, ruL, ruE, Nat.reduceAdd, reduceIte, Int.reduceLT, Int.reduceLE, Int.reduceEq, Int.reduceNeg, Int.reduceAdd, Int.reduceSub, Nat.reduceLeDiff, Nat.reduceLT]
 rw [ldD hd (show sub _ 2 1 false = some (.int .i64 a.hs) from rfl), c_Slot hC h2.1 (by omega), ldD hd (show sub _ 4 1 false = some (.int .i64 a.pc) from rfl)]
 simp only [h, ruS, ruL, ruE, Nat.reduceAdd, reduceIte, Int.reduceLT, Int.reduceLE, Int.reduceEq, Int.reduceNeg, Int.reduceAdd, Int.reduceSub, Nat.reduceLeDiff, Nat.reduceLT]
 rw [ldD hd (show sub _ 5 1 false = some (.int .u64 a.w) from rfl), c_wSlot h3.1 h3.2]
 simp only [xFldV, List.toList_toArray, ruS, ruL, ruE, Nat.reduceAdd, reduceIte, Int.reduceLT, Int.reduceLE, Int.reduceEq, Int.reduceNeg, Int.reduceAdd, Int.reduceSub, Nat.reduceLeDiff, Nat.reduceLT]
 rw [c_Of hC (show slA a.w < 9223372036854775808 by omega)]
 simp only [xMove, c_Chunk hC h5.1 (show ofC C (slA a.w) ≤ 65536 by omega)]
 simp only [ruS, ruL, ruE, Nat.reduceAdd, reduceIte, Int.reduceLT, Int.reduceLE, Int.reduceEq, Int.reduceNeg, Int.reduceAdd, Int.reduceSub, Nat.reduceLeDiff, Nat.reduceLT]
 rw [IntWalk.i64_in (C.chunk (ofC C (slA a.w)) + 1) (by omega), ldD hd (show sub _ 6 1 false = some (.int .i64 a.size) from rfl)]
 refine c_Class ?_
 rw [c_Room h4 hcl3, xNeg]
 rw [IntWalk.i64_in (-roomOf (classOf a.size)) (by omega), c_Add hN (by omega) (by omega)]
 generalize (A.by who).add (C.chunk (ofC C (slA a.w)) + 1) (IntKind.u64.wrap (-roomOf (classOf a.size))) = A' at *
 rw [ldD hd (show sub _ 2 1 false = some (.int .i64 a.hs) from rfl)]
 refine behind (K := fun _ σ => s_c6 [.int .i64 a.hs] _ σ) (v := undef) hN hd fun υ u1 u2 u3 => ?_
 refine c_NewGive fun id ω hid gid x => ?_
 have hx1 := u1.ext x
 have hx2 := x _ _ u2
 have ip : id ≠ p := by rintro rfl; rw [u2] at hid; cases hid
 have inn := u1.new hid
 have ids : σ.get id = none := by
  cases e : σ.get id with
  | none => rfl
  | some b => rw [u3 id b e (by simp only [List.mem_cons, not_or]; exact ⟨ip, inn⟩)] at hid; cases hid
 rw [hx1.obj hx2, stD { a with give := some id } hd rfl rfl (by decide) rfl, stD { a with pc := 6, give := some id } hd rfl rfl (by decide) rfl, ldD (a := { a with pc := 6, give := some id }) hd (show sub _ 3 1 false = some (.int .i64 a.hg) from rfl)]
 simp only [ruS, ruL, ruE, Nat.reduceAdd, reduceIte, Int.reduceLT, Int.reduceLE, Int.reduceEq, Int.reduceNeg, Int.reduceAdd, Int.reduceSub, Nat.reduceLeDiff, Nat.reduceLT]
 refine behind hN hd fun ρ r1 r2 r3 => hk id ρ ids ip r1 r2 ?_ ((u3.trans x.keep).trans r3)
 exact r3 id _ gid (by simp only [List.mem_cons, not_or]; exact ⟨ip, inn⟩)
theorem c_Dr6 (hN : N.ok) (hC : C.ok) (hA : isA N A σ) {p q : Nat} {a : Dr} {g : Gv} (hp : σ.get p = some ⟨a.l, true⟩) (hd : p ∉ N.l) (hq : σ.get q = some ⟨[] ++ g.l ++ [], true⟩) (hqd : q ∉ N.l) (hw : ∀ i, 0 ≤ A.w i ∧ A.w i < 18446744073709551616) (hn : C.len ≤ A.n) (h : a.pc = 6) (ha : a.give = some q)
  (h2 : 0 ≤ a.hs ∧ a.hs < C.S) (h0 : 0 ≤ g.top ∧ g.top < 18446744073709551616) (h1 : 0 ≤ g.slot ∧ g.slot < C.S)
  (hk : ∀ τ, isA N (g.step C who A).2.2 τ → τ.get q = some ⟨[] ++ (g.step C who A).2.1.l ++ [], true⟩ → Keep (q :: N.l) σ τ → K (.bool (g.step C who A).1) τ) :
  s_ay [.pointer (some ⟨p, 0, none⟩), N.env C who] K σ := by
 rw [hA.obj hp]
 simp only [s_ay, w_ay, w_ay_j1, w_ay_j1b, ruS, ruL, ruE, Nat.reduceAdd, reduceIte, Int.reduceLT, Int.reduceLE, Int.reduceEq, Int.reduceNeg, Int.reduceAdd, Int.reduceSub, Nat.reduceLeDiff, Nat.reduceLT]
 rw [ldD hd (show sub _ 2 1 false = some (.int .i64 a.hs) from rfl), c_Slot hC h2.1 (by have := hC.S; omega), ldD hd (show sub _ 4 1 false = some (.int .i64 a.pc) from rfl)]
 simp only [h, ruS, ruL, ruE, Nat.reduceAdd, reduceIte, Int.reduceLT, Int.reduceLE, Int.reduceEq, Int.reduceNeg, Int.reduceAdd, Int.reduceSub, Nat.reduceLeDiff, Nat.reduceLT]
 rw [ldD hd (show sub _ 8 1 false = some (obP a.give) from rfl), ha, obP_s, ← hA.obj hp]
 exact c_Give_Step hN hC hA (t := g) (pre := []) (post := []) hq hqd hw hn h0 h1 hk
end Go.Fl
namespace Go.Fl
open Go
set_option linter.unusedVariables false
set_option linter.unusedSimpArgs false
variable {N : Nm} {A B : Ar} {σ : Mem} {K : Value → Mem → Prop} {C : Cf} {who : Int}
structure Dm where
 d : Dr
 h : Hl
 g : Gv
def Dm.new (n : Int) (o : Bool) : Dm := ⟨Dr.new n o, Hl.new 0 0 0, ⟨0, 0, 0⟩⟩
def Dm.step (C : Cf) (who : Int) (A : Ar) (m : Dm) : Bool × Dm × Ar :=
 if m.d.pc = 0 then
  if hdOk m.d.n = false ∨ C.S ≤ hdSl m.d.n then (true, { m with d := { m.d with hs := hdSl m.d.n, hg := hdGe m.d.n, oE := 3, oH := 0, oV := 0, oS := A.s } }, A)
  else if lives (A.w (C.slot (hdSl m.d.n))) (hdGe m.d.n) then (false, { m with d := { m.d with hs := hdSl m.d.n, hg := hdGe m.d.n, w := A.w (C.slot (hdSl m.d.n)), pc := 1 } }, (A.by who).load (C.slot (hdSl m.d.n)))
  else (true, { m with d := { m.d with hs := hdSl m.d.n, hg := hdGe m.d.n, w := A.w (C.slot (hdSl m.d.n)), oE := 3, oH := 0, oV := 0, oS := ((A.by who).load (C.slot (hdSl m.d.n))).s } }, (A.by who).load (C.slot (hdSl m.d.n)))
 else if m.d.pc = 1 then
  if hdO (A.w (slA m.d.w)) ≠ m.d.own then (true, { m with d := { m.d with oE := 3, oH := 0, oV := 0, oS := ((A.by who).load (slA m.d.w)).s } }, (A.by who).load (slA m.d.w))
  else if slS m.d.w = 4 then (false, { m with d := { m.d with size := hdS (A.w (slA m.d.w)), pc := 4 }, h := Hl.new m.d.hs m.d.w (hdS (A.w (slA m.d.w))) }, (A.by who).load (slA m.d.w))
  else (false, { m with d := { m.d with size := hdS (A.w (slA m.d.w)), pc := 2 } }, (A.by who).load (slA m.d.w))
 else if m.d.pc = 2 then
  if A.w (C.slot m.d.hs) = m.d.w then (false, { m with d := { m.d with pc := 3 }, h := Hl.new m.d.hs (putSlot 4 (slA m.d.w) (slG m.d.w) (slV m.d.w + 1)) m.d.size }, (A.by who).cas (C.slot m.d.hs) m.d.w (putSlot 4 (slA m.d.w) (slG m.d.w) (slV m.d.w + 1)))
  else (false, { m with d := { m.d with pc := 0 } }, (A.by who).cas (C.slot m.d.hs) m.d.w (putSlot 4 (slA m.d.w) (slG m.d.w) (slV m.d.w + 1)))
 else if m.d.pc = 3 then
  let r := m.h.step C who A
  if r.1 = true then (false, { m with d := { m.d with oE := 0, oH := 0, oV := 0, oS := r.2.2.t (C.slot m.d.hs), pc := 5 } }, r.2.2) else (false, { m with h := r.2.1 }, r.2.2)
 else if m.d.pc = 4 then
  let r := m.h.step C who A
  if r.1 = true then (false, { m with d := { m.d with pc := 0 } }, r.2.2) else (false, { m with h := r.2.1 }, r.2.2)
 else if m.d.pc = 5 then
  (decide (C.G ≤ m.d.hg), { m with d := { m.d with pc := 6 }, g := ⟨0, m.d.hs, 0⟩ }, (A.by who).add (C.chunk (ofC C (slA m.d.w)) + 1) (IntKind.u64.wrap (-roomOf (classOf m.d.size))))
 else ((m.g.step C who A).1, { m with g := (m.g.step C who A).2.1 }, (m.g.step C who A).2.2)
structure Dm.fit (C : Cf) (A : Ar) (m : Dm) : Prop where
 pc : 0 ≤ m.d.pc ∧ m.d.pc ≤ 6
 n : 0 ≤ m.d.n ∧ m.d.n < 18446744073709551616
 hs : 0 ≤ m.d.hs ∧ m.d.hs < C.S
 w : 0 ≤ m.d.w ∧ m.d.w < 18446744073709551616
 a1 : m.d.pc = 1 → slA m.d.w < A.n
 h : m.d.pc = 3 ∨ m.d.pc = 4 → m.h.fit C
 c5 : m.d.pc = 5 → 0 ≤ classOf m.d.size ∧ 0 ≤ ofC C (slA m.d.w) ∧ ofC C (slA m.d.w) < C.C
 g6 : m.d.pc = 6 → (0 ≤ m.g.top ∧ m.g.top < 18446744073709551616) ∧ 0 ≤ m.g.slot ∧ m.g.slot < C.S
structure DOb (N : Nm) (p : Nat) (O : List Nat) (m : Dm) (τ : Mem) : Prop where
 obj : ∃ x y, τ.get p = some ⟨({ m.d with help := x, give := y } : Dr).l, true⟩ ∧ (m.d.pc = 3 ∨ m.d.pc = 4 → ∃ q, x = some q ∧ q ∈ O ∧ q ≠ p ∧ τ.get q = some ⟨[] ++ m.h.l ++ [], true⟩) ∧
  (m.d.pc = 6 → ∃ q, y = some q ∧ q ∈ O ∧ q ≠ p ∧ τ.get q = some ⟨[] ++ m.g.l ++ [], true⟩)
 own : ∀ i ∈ O, i ∉ N.l
 p : p ∈ O
theorem DOb.ext {p : Nat} {O : List Nat} {m : Dm} {τ : Mem} (h : DOb N p O m σ) (x : Ext σ τ) : DOb N p O m τ := by
 obtain ⟨⟨a, b, h1, h2, h3⟩, h4, h5⟩ := h
 refine ⟨⟨a, b, x _ _ h1, fun e => ?_, fun e => ?_⟩, h4, h5⟩
 ·obtain ⟨q, q1, q2, q3, q4⟩ := h2 e; exact ⟨q, q1, q2, q3, x _ _ q4⟩
 ·obtain ⟨q, q1, q2, q3, q4⟩ := h3 e; exact ⟨q, q1, q2, q3, x _ _ q4⟩
theorem c_Drop_Step (hN : N.ok) (hC : C.ok) (hA : isA N A σ) {p : Nat} {O : List Nat} {m : Dm} (hO : DOb N p O m σ) (hw : ∀ i, 0 ≤ A.w i ∧ A.w i < 18446744073709551616) (hn : C.len ≤ A.n) (hf : m.fit C A)
  (hk : ∀ O' τ, (∀ i ∈ O', i ∈ O ∨ σ.get i = none) → isA N (m.step C who A).2.2 τ → DOb N p O' (m.step C who A).2.1 τ → Keep (O ++ N.l) σ τ → K (.bool (m.step C who A).1) τ) : s_ay [.pointer (some ⟨p, 0, none⟩), N.env C who] K σ := by
 obtain ⟨⟨x, y, hp, h3, h6⟩, own, pO⟩ := hO
 have hd := own p pO
 have k1 : ∀ {τ : Mem}, Keep (p :: N.l) σ τ → Keep (O ++ N.l) σ τ := fun k => k.mono fun i hi => by
  rcases List.mem_cons.1 hi with rfl | hi
  ·exact List.mem_append_left _ pO
  ·exact List.mem_append_right _ hi
 have same : ∀ i ∈ O, i ∈ O ∨ σ.get i = none := fun i hi => .inl hi
 have cons : ∀ {q : Nat}, σ.get q = none → ∀ i ∈ q :: O, i ∈ O ∨ σ.get i = none := fun h i hi => by rcases List.mem_cons.1 hi with rfl | hi; exact .inr h; exact .inl hi
 have ownc : ∀ {q : Nat}, q ∉ N.l → ∀ i ∈ q :: O, i ∉ N.l := fun h i hi => by rcases List.mem_cons.1 hi with rfl | hi; exact h; exact own i hi
 have hpc := hf.pc
 have hhs := hf.hs
 have hS := hC.S
 unfold Dm.step at hk
 by_cases c0 : m.d.pc = 0
 ·rw [if_pos c0] at hk
  refine c_Dr0 hN hC hA (a := { m.d with help := x, give := y }) hp hd hw hn c0 hf.n ⟨hhs.1, by dsimp only; omega⟩ (fun c τ u1 u2 u3 => ?_) (fun c d e τ u1 u2 u3 => ?_) (fun c d e τ u1 u2 u3 => ?_)
  ·rw [if_pos c] at hk
   exact hk O τ same u1 ⟨⟨x, y, u2, fun q => by dsimp only at q; omega, fun q => by dsimp only at q; omega⟩, own, pO⟩ (k1 u3)
  ·rw [if_neg (show ¬ (hdOk m.d.n = false ∨ C.S ≤ hdSl m.d.n) by rintro (q | q); rw [show hdOk m.d.n = true from c] at q; cases q; dsimp only at d; omega), if_neg e] at hk
   exact hk O τ same u1 ⟨⟨x, y, u2, fun q => by dsimp only at q; omega, fun q => by dsimp only at q; omega⟩, own, pO⟩ (k1 u3)
  ·rw [if_neg (show ¬ (hdOk m.d.n = false ∨ C.S ≤ hdSl m.d.n) by rintro (q | q); rw [show hdOk m.d.n = true from c] at q; cases q; dsimp only at d; omega), if_pos e] at hk
   exact hk O τ same u1 ⟨⟨x, y, u2, fun q => by dsimp only at q; omega, fun q => by dsimp only at q; omega⟩, own, pO⟩ (k1 u3)
 rw [if_neg c0] at hk
 by_cases c1 : m.d.pc = 1
 ·rw [if_pos c1] at hk
  refine c_Dr1 hN hC hA (a := { m.d with help := x, give := y }) hp hd hw c1 ⟨hhs.1, by dsimp only; omega⟩ hf.w (hf.a1 c1) (fun c τ u1 u2 u3 => ?_) (fun c d τ u1 u2 u3 => ?_) (fun c d q τ q1 q2 u1 u2 u3 u4 => ?_)
  ·rw [if_pos c] at hk
   exact hk O τ same u1 ⟨⟨x, y, u2, fun q => by dsimp only at q; omega, fun q => by dsimp only at q; omega⟩, own, pO⟩ (k1 u3)
  ·rw [if_neg (fun q => q c), if_neg d] at hk
   exact hk O τ same u1 ⟨⟨x, y, u2, fun q => by dsimp only at q; omega, fun q => by dsimp only at q; omega⟩, own, pO⟩ (k1 u3)
  ·rw [if_neg (fun q => q c), if_pos d] at hk
   exact hk (q :: O) τ (cons q1) u1 ⟨⟨some q, y, u2, fun _ => ⟨q, rfl, List.mem_cons_self .., q2, by simpa using u3⟩, fun e => by dsimp only at e; omega⟩, ownc (hA.new q1), List.mem_cons_of_mem _ pO⟩ (k1 u4)
 rw [if_neg c1] at hk
 by_cases c2 : m.d.pc = 2
 ·rw [if_pos c2] at hk
  refine c_Dr2 hN hC hA (a := { m.d with help := x, give := y }) hp hd hn c2 hhs hf.w (fun c τ u1 u2 u3 => ?_) (fun c q τ q1 q2 u1 u2 u3 u4 => ?_)
  ·rw [if_neg c] at hk
   exact hk O τ same u1 ⟨⟨x, y, u2, fun q => by dsimp only at q; omega, fun q => by dsimp only at q; omega⟩, own, pO⟩ (k1 u3)
  ·rw [if_pos c] at hk
   exact hk (q :: O) τ (cons q1) u1 ⟨⟨some q, y, u2, fun _ => ⟨q, rfl, List.mem_cons_self .., q2, by simpa using u3⟩, fun e => by dsimp only at e; omega⟩, ownc (hA.new q1), List.mem_cons_of_mem _ pO⟩ (k1 u4)
 rw [if_neg c2] at hk
 by_cases c34 : m.d.pc = 3 ∨ m.d.pc = 4
 ·have n6 : ¬ m.d.pc = 6 := by rcases c34 with c | c <;> (rw [c]; decide)
  obtain ⟨q, rfl, qO, qp, gq⟩ := h3 c34
  have k2 : ∀ {τ : Mem}, Keep (q :: p :: N.l) σ τ → Keep (O ++ N.l) σ τ := fun k => k.mono fun i hi => by
   rcases List.mem_cons.1 hi with rfl | hi
   ·exact List.mem_append_left _ qO
   ·rcases List.mem_cons.1 hi with rfl | hi
    ·exact List.mem_append_left _ pO
    ·exact List.mem_append_right _ hi
  refine c_Dr34 hN hC hA (a := { m.d with help := some q, give := y }) (t := m.h) hp hd gq (own q qO) qp hw hn c34 rfl hhs (hf.h c34) (fun d τ u1 u2 u3 u4 => ?_) (fun d c τ u1 u2 u3 => ?_) (fun d c τ u1 u2 u3 => ?_)
  ·have hk' : ∀ O' τ, (∀ i ∈ O', i ∈ O ∨ σ.get i = none) → isA N (m.h.step C who A).2.2 τ → DOb N p O' { m with h := (m.h.step C who A).2.1 } τ → Keep (O ++ N.l) σ τ → K (.bool false) τ := by
    rcases c34 with c | c
    ·simpa only [if_pos c, d, Bool.false_eq_true, if_false] using hk
    ·rw [if_neg (show ¬ m.d.pc = 3 by omega)] at hk
     simpa only [if_pos c, d, Bool.false_eq_true, if_false] using hk
   exact hk' O τ same u1 ⟨⟨some q, y, u2, fun _ => ⟨q, rfl, qO, qp, u3⟩, fun e => absurd e n6⟩, own, pO⟩ (k2 u4)
  ·have c' : m.d.pc = 3 := c
   simp only [if_pos c', d, if_true] at hk
   exact hk O τ same u1 ⟨⟨some q, y, u2, fun e => by dsimp only at e; omega, fun e => by dsimp only at e; omega⟩, own, pO⟩ (k2 u3)
  ·have c' : m.d.pc = 4 := c
   simp only [if_neg (show ¬ m.d.pc = 3 by omega), if_pos c', d, if_true] at hk
   exact hk O τ same u1 ⟨⟨some q, y, u2, fun e => by dsimp only at e; omega, fun e => by dsimp only at e; omega⟩, own, pO⟩ (k2 u3)
 rw [if_neg (fun q => c34 (.inl q)), if_neg (fun q => c34 (.inr q))] at hk
 by_cases c5 : m.d.pc = 5
 ·rw [if_pos c5] at hk
  obtain ⟨f1, f2⟩ := hf.c5 c5
  refine c_Dr5 hN hC hA (a := { m.d with help := x, give := y }) hp hd hn c5 hhs hf.w f1 f2 fun q τ q1 q2 u1 u2 u3 u4 => ?_
  exact hk (q :: O) τ (cons q1) u1 ⟨⟨x, some q, u2, fun e => by dsimp only at e; omega, fun _ => ⟨q, rfl, List.mem_cons_self .., q2, by simpa using u3⟩⟩, ownc (hA.new q1), List.mem_cons_of_mem _ pO⟩ (k1 u4)
 rw [if_neg c5] at hk
 have c6 : m.d.pc = 6 := by omega
 obtain ⟨q, rfl, qO, qp, gq⟩ := h6 c6
 obtain ⟨f1, f2⟩ := hf.g6 c6
 refine c_Dr6 hN hC hA (a := { m.d with help := x, give := some q }) (g := m.g) hp hd gq (own q qO) hw hn c6 rfl hhs f1 f2 fun τ u1 u2 u3 => ?_
 have hp' := u3.get hp (by simp only [List.mem_cons, not_or]; exact ⟨fun e => qp e.symm, hd⟩)
 exact hk O τ same u1 ⟨⟨x, some q, hp', fun e => by dsimp only at e; omega, fun _ => ⟨q, rfl, qO, qp, u2⟩⟩, own, pO⟩ (u3.mono fun i hi => by
  rcases List.mem_cons.1 hi with rfl | hi
  ·exact List.mem_append_left _ qO
  ·exact List.mem_append_right _ hi)
theorem DOb.done {p : Nat} {O : List Nat} {m : Dm} (hA : isA N A σ) (h : DOb N p O m σ) (hk : K (.agg #[.int .i64 m.d.oE, .int .u64 m.d.oH, .int .i64 m.d.oV, .int .i64 m.d.oS]) σ) : s_ax [.pointer (some ⟨p, 0, none⟩)] K σ := by
 obtain ⟨⟨x, y, hp, _, _⟩, own, pO⟩ := h
 exact c_DropDone hA (a := { m.d with help := x, give := y }) hp hk
theorem dob_new {n : Int} {o : Bool} (hA : isA N A σ) (hk : ∀ p τ, σ.get p = none → DOb N p [p] (Dm.new n o) τ → Ext σ τ → K (.pointer (some ⟨p, 0, none⟩)) τ) : s_a4 [.int .u64 n, .bool o] K σ := by
 refine c_DropNew fun p τ hp gp x => hk p τ hp ⟨⟨none, none, gp, (fun e => by rcases e with e | e <;> cases e), (fun e => by cases e)⟩, fun i hi => ?_, List.mem_singleton.2 rfl⟩ x
 rw [List.mem_singleton.1 hi]; exact hA.new hp
theorem c_Drop (hN : N.ok) (hC : C.ok) (hA : isA N A σ) {n : Int} {o : Bool} (I : Int → Dm → Ar → Prop) (D : Dm → Ar → Prop) (h0 : I 0 (Dm.new n o) A)
  (hs : ∀ k m A, 0 ≤ k → k < 200 → I k m A → m.fit C A ∧ (∀ i, 0 ≤ A.w i ∧ A.w i < 18446744073709551616) ∧ C.len ≤ A.n ∧ if (m.step C who A).1 = true then D (m.step C who A).2.1 (m.step C who A).2.2 else I (k + 1) (m.step C who A).2.1 (m.step C who A).2.2)
  (he : ∀ m A, I 200 m A → D m A) (hk : ∀ m A' τ, D m A' → isA N A' τ → Keep N.l σ τ → K (.agg #[.int .i64 m.d.oE, .int .u64 m.d.oH, .int .i64 m.d.oV, .int .i64 m.d.oS]) τ) :
  s_bc [N.env C who, .int .u64 n, .bool o] K σ := by
 have gs : ∀ x y z w : Int, gStore 4 [.pointer (some ⟨6, 0, some 0⟩), .agg #[.int .i64 x, .int .u64 y, .int .i64 z, .int .i64 w]] [.int .i64 0, .int .u64 0, .int .i64 0, .int .i64 0] = some [.int .i64 x, .int .u64 y, .int .i64 z, .int .i64 w] := fun _ _ _ _ => rfl
 simp only [s_bc, w_bc, ruS, ruL, ruE, Nat.reduceAdd, reduceIte, Int.reduceLT, Int.reduceLE, Int.reduceEq, Int.reduceNeg, Int.reduceAdd, Int.reduceSub, Nat.reduceLeDiff, Nat.reduceLT]
 refine dob_new hA fun p τ0 hp ho x0 => ?_
 have fin : ∀ m A' τ, D m A' → isA N A' τ → (∃ O, DOb N p O m τ) → Keep N.l σ τ → w_bc_j1 K [.pointer (some ⟨p, 0, none⟩)] [[.int .i64 0, .int .u64 0, .int .i64 0, .int .i64 0]] τ := by
  rintro m A' τ hD hA' ⟨O, hO⟩ hK
  simp only [w_bc_j1, w_bc_j1b, ruS, ruL, ruE, Nat.reduceAdd, reduceIte, Int.reduceLT, Int.reduceLE, Int.reduceEq, Int.reduceNeg, Int.reduceAdd, Int.reduceSub, Nat.reduceLeDiff, Nat.reduceLT]
  refine DOb.done hA' hO ?_
  simp only [gs, sub4, ruS, ruL, ruE, Nat.reduceAdd, reduceIte, Int.reduceLT, Int.reduceLE, Int.reduceEq, Int.reduceNeg, Int.reduceAdd, Int.reduceSub, Nat.reduceLeDiff, Nat.reduceLT]
  exact hk m A' τ hD hA' hK
 refine xLoop_i (fun i => [.pointer (some ⟨p, 0, none⟩), .int .i64 i]) [N.el C who, [.int .i64 0, .int .u64 0, .int .i64 0, .int .i64 0]] 200
  (fun i τ => ∃ m A' O, 0 ≤ i ∧ i ≤ 200 ∧ isA N A' τ ∧ I i m A' ∧ DOb N p O m τ ∧ (∀ j ∈ O, σ.get j = none) ∧ Keep N.l σ τ) ?_ ⟨_, A, [p], by omega, by omega, hA.ext x0, h0, ho, fun j hj => by rw [List.mem_singleton.1 hj]; exact hp, x0.keep⟩
 rintro i τ ⟨m, A', O, i0, i1, hA', hI, hO, hOn, hK⟩ R hR
 simp only [w_law09_Drop_l4, w_law09_Drop_l4b, ruS, ruL, ruE, Nat.reduceAdd, reduceIte, Int.reduceLT, Int.reduceLE, Int.reduceEq, Int.reduceNeg, Int.reduceAdd, Int.reduceSub, Nat.reduceLeDiff, Nat.reduceLT]
 by_cases ci : i < 200
 ·simp only [ci, ruS, ruL, ruE, Nat.reduceAdd, reduceIte, Int.reduceLT, Int.reduceLE, Int.reduceEq, Int.reduceNeg, Int.reduceAdd, Int.reduceSub, Nat.reduceLeDiff, Nat.reduceLT]
  obtain ⟨hf, hw, hn, hst⟩ := hs i m A' i0 ci hI
  refine c_Drop_Step hN hC hA' hO hw hn hf fun O' τ' hO' hA2 hO2 hK2 => ?_
  have hK3 : Keep N.l σ τ' := by
   intro j b hj hn'
   refine hK2 j b (hK j b hj hn') fun hm => ?_
   rcases List.mem_append.1 hm with h | h
   ·rw [hOn j h] at hj; cases hj
   ·exact hn' h
  have hOn' : ∀ j ∈ O', σ.get j = none := by
   intro j hj
   rcases hO' j hj with h | h
   ·exact hOn j h
   ·cases e : σ.get j with
    | none => rfl
    | some b => rw [hK j b e (hA'.new h)] at h; cases h
  generalize m.step C who A' = r at *
  obtain ⟨d, m', A2⟩ := r
  dsimp only at *
  cases d with
  | true =>
   simp only [ruS, ruL, ruE, Nat.reduceAdd, reduceIte, Int.reduceLT, Int.reduceLE, Int.reduceEq, Int.reduceNeg, Int.reduceAdd, Int.reduceSub, Nat.reduceLeDiff, Nat.reduceLT] at hst ⊢
   exact fin m' A2 τ' hst hA2 ⟨O', hO2⟩ hK3
  | false =>
   simp only [ruS, ruL, ruE, Nat.reduceAdd, reduceIte, Int.reduceLT, Int.reduceLE, Int.reduceEq, Int.reduceNeg, Int.reduceAdd, Int.reduceSub, Nat.reduceLeDiff, Nat.reduceLT] at hst ⊢
   rw [IntWalk.i64_in (i + 1) (by omega)]
   exact hR _ ci ⟨m', A2, O', by omega, by omega, hA2, hst, hO2, hOn', hK3⟩
 ·simp only [ci, ruS, ruL, ruE, Nat.reduceAdd, reduceIte, Int.reduceLT, Int.reduceLE, Int.reduceEq, Int.reduceNeg, Int.reduceAdd, Int.reduceSub, Nat.reduceLeDiff, Nat.reduceLT]
  have : i = 200 := by omega
  subst this
  exact fin m A' τ (he _ _ hI) hA' ⟨O, hO⟩ hK
end Go.Fl
namespace Go.Fl
open Go
set_option linter.unusedVariables false
set_option linter.unusedSimpArgs false
variable {N : Nm} {A B : Ar} {σ : Mem} {K : Value → Mem → Prop} {C : Cf} {who : Int}
structure Am where
 a : Al
 t : Pl
 g : Gv
def Am.new (s : Int) (o : Bool) : Am := ⟨Al.new s o, Pl.new 0, ⟨0, 0, 0⟩⟩
def Am.out (m : Am) (A : Ar) (e : Int) : Al := { m.a with oE := e, oH := 0, oV := 0, oS := A.s }
def Am.step (C : Cf) (who : Int) (A : Ar) (m : Am) : Bool × Am × Ar :=
 if m.a.pc = 0 then
  if classOf m.a.size < 0 then (true, { m with a := m.out A 5 }, A) else
  let r := m.a.tk.step C who A
  if r.1 = false then (false, { m with a := { m.a with tk := r.2.1 } }, r.2.2)
  else if r.2.1.ok = true then (false, { m with a := { m.a with tk := r.2.1, at' := r.2.1.slot, pc := 1 } }, r.2.2)
  else (true, { m with a := { m.a with tk := r.2.1, at' := 0, pc := 1, oE := 7, oH := 0, oV := 0, oS := r.2.2.s } }, r.2.2)
 else if m.a.pc = 1 then
  (false, { m with a := { m.a with gen := slG (A.w (C.slot m.a.at')), pc := 2 }, t := Pl.new (classOf m.a.size) }, (A.by who).load (C.slot m.a.at'))
 else if m.a.pc = 2 then
  let r := m.t.step C who A
  if r.1 = false then (false, { m with t := r.2.1 }, r.2.2)
  else if r.2.1.ok = true then (false, { m with a := { m.a with sa := r.2.1.sa, sc := r.2.1.sc, pc := 3 }, t := r.2.1 }, r.2.2)
  else (false, { m with a := { m.a with sa := 0, sc := 0, pc := 7, oE := 6, oH := 0, oV := 0, oS := r.2.2.s }, t := r.2.1, g := ⟨0, m.a.at', 0⟩ }, r.2.2)
 else if m.a.pc = 3 then (false, { m with a := { m.a with pc := 4 } }, (A.by who).add (C.chunk m.a.sc + 1) (roomOf (classOf m.a.size)))
 else if m.a.pc = 4 then (false, { m with a := { m.a with pc := 5 } }, (A.by who).store m.a.sa (putHead 1 m.a.size m.a.at' m.a.gen m.a.own))
 else if m.a.pc = 5 then
  let A' := (A.by who).store (C.slot m.a.at') (putSlot 1 m.a.sa m.a.gen 0)
  (false, { m with a := { m.a with pc := 6, oE := 0, oH := putHandle m.a.at' m.a.gen, oV := 0, oS := A'.s } }, A')
 else if m.a.pc = 6 then (true, m, (A.by who).store m.a.sa (putHead 2 m.a.size m.a.at' m.a.gen m.a.own))
 else let r := m.g.step C who A; (r.1, { m with g := r.2.1 }, r.2.2)
structure Am.fit (C : Cf) (A : Ar) (m : Am) : Prop where
 pc : 0 ≤ m.a.pc ∧ m.a.pc ≤ 7
 tk : m.a.pc = 0 → (0 ≤ m.a.tk.top ∧ m.a.tk.top < 18446744073709551616) ∧ (m.a.tk.pc = 1 → 0 ≤ m.a.tk.slot ∧ m.a.tk.slot < C.S) ∧ 0 ≤ m.a.tk.next + 1
 cl : m.a.pc ≠ 0 → 0 ≤ classOf m.a.size
 at' : m.a.pc ≠ 0 → 0 ≤ m.a.at' ∧ m.a.at' < C.S
 pl : m.a.pc = 2 → m.t.fit C ∧ A.w (2 + m.t.cls) ≤ C.C
 spot : 3 ≤ m.a.pc → m.a.pc ≤ 6 → (0 ≤ m.a.sc ∧ m.a.sc < C.C) ∧ 0 ≤ m.a.sa ∧ m.a.sa < A.n
 gv : m.a.pc = 7 → (0 ≤ m.g.top ∧ m.g.top < 18446744073709551616) ∧ 0 ≤ m.g.slot ∧ m.g.slot < C.S
structure Ob (N : Nm) (p : Nat) (O : List Nat) (m : Am) (τ : Mem) : Prop where
 obj : ∃ x y, τ.get p = some ⟨({ m.a with p := x, g := y } : Al).l, true⟩ ∧ (m.a.pc = 2 → ∃ q, x = some q ∧ q ∈ O ∧ q ≠ p ∧ τ.get q = some ⟨[] ++ m.t.l ++ [], true⟩) ∧
  (m.a.pc = 7 → ∃ q, y = some q ∧ q ∈ O ∧ q ≠ p ∧ τ.get q = some ⟨[] ++ m.g.l ++ [], true⟩)
 own : ∀ i ∈ O, i ∉ N.l
 p : p ∈ O
theorem c_Alloc_Step (hN : N.ok) (hC : C.ok) (hA : isA N A σ) {p : Nat} {O : List Nat} {m : Am} (hO : Ob N p O m σ) (hw : ∀ i, 0 ≤ A.w i ∧ A.w i < 18446744073709551616) (hn : C.len ≤ A.n) (hf : m.fit C A)
  (hk : ∀ O' τ, (∀ i ∈ O', i ∈ O ∨ σ.get i = none) → isA N (m.step C who A).2.2 τ → Ob N p O' (m.step C who A).2.1 τ → Keep (O ++ N.l) σ τ → K (.bool (m.step C who A).1) τ) : s_ai [.pointer (some ⟨p, 0, none⟩), N.env C who] K σ := by
 obtain ⟨⟨x, y, hp, h2, h7⟩, own, pO⟩ := hO
 have hd := own p pO
 have k1 : ∀ {τ : Mem}, Keep (p :: N.l) σ τ → Keep (O ++ N.l) σ τ := fun k => k.mono fun i hi => by
  rcases List.mem_cons.1 hi with rfl | hi
  ·exact List.mem_append_left _ pO
  ·exact List.mem_append_right _ hi
 have same : ∀ i ∈ O, i ∈ O ∨ σ.get i = none := fun i hi => .inl hi
 have hpc := hf.pc
 unfold Am.step at hk
 by_cases c0 : m.a.pc = 0
 ·obtain ⟨t1, t2, t3⟩ := hf.tk c0
  simp only [if_pos c0] at hk
  refine c_Al0 hN hC hA (a := { m.a with p := x, g := y }) hp hd hw hn c0 t1 t2 t3 (fun c τ u1 u2 u3 => ?_) (fun c d τ u1 u2 u3 => ?_) (fun c d o τ u1 u2 u3 => ?_) (fun c d o τ u1 u2 u3 => ?_)
  ·rw [if_pos c] at hk
   exact hk O τ same u1 ⟨⟨x, y, u2, fun q => by dsimp only [Am.out] at q; omega, fun q => by dsimp only [Am.out] at q; omega⟩, own, pO⟩ (k1 u3)
  ·simp only [if_neg (show ¬ classOf m.a.size < 0 from Int.not_lt.2 c), if_pos d] at hk
   exact hk O τ same u1 ⟨⟨x, y, u2, fun q => by dsimp only at q; omega, fun q => by dsimp only at q; omega⟩, own, pO⟩ (k1 u3)
  ·simp only [if_neg (show ¬ classOf m.a.size < 0 from Int.not_lt.2 c), d, o, Bool.true_eq_false, if_false, if_true] at hk
   exact hk O τ same u1 ⟨⟨x, y, u2, fun q => by dsimp only at q; omega, fun q => by dsimp only at q; omega⟩, own, pO⟩ (k1 u3)
  ·simp only [if_neg (show ¬ classOf m.a.size < 0 from Int.not_lt.2 c), d, o, Bool.true_eq_false, Bool.false_eq_true, if_false, if_true] at hk
   exact hk O τ same u1 ⟨⟨x, y, u2, fun q => by dsimp only at q; omega, fun q => by dsimp only at q; omega⟩, own, pO⟩ (k1 u3)
 have hcl := hf.cl c0
 have hat := hf.at' c0
 by_cases c1 : m.a.pc = 1
 ·simp only [if_neg c0, if_pos c1] at hk
  refine c_Al1 hN hC hA (a := { m.a with p := x, g := y }) hp hd hw hn c1 hat hp fun q τ q1 q2 u1 u2 u3 u4 => ?_
  have hqn := hA.new q1
  refine hk (q :: O) τ (fun i hi => by rcases List.mem_cons.1 hi with rfl | hi; exact .inr q1; exact .inl hi) u1 ⟨⟨some q, y, u2, fun _ => ⟨q, rfl, List.mem_cons_self .., q2, by simpa using u3⟩, fun e => by dsimp only at e; omega⟩, fun i hi => ?_, List.mem_cons_of_mem _ pO⟩ (k1 u4)
  rcases List.mem_cons.1 hi with rfl | hi
  ·exact hqn
  ·exact own i hi
 by_cases c2 : m.a.pc = 2
 ·obtain ⟨q, rfl, qO, qp, gq⟩ := h2 c2
  obtain ⟨f1, f2⟩ := hf.pl c2
  have k2 : ∀ {τ : Mem}, Keep (q :: p :: N.l) σ τ → Keep (O ++ N.l) σ τ := fun k => k.mono fun i hi => by
   rcases List.mem_cons.1 hi with rfl | hi
   ·exact List.mem_append_left _ qO
   ·rcases List.mem_cons.1 hi with rfl | hi
    ·exact List.mem_append_left _ pO
    ·exact List.mem_append_right _ hi
  simp only [if_neg c0, if_neg c1, if_pos c2] at hk
  refine c_Al2 hN hC hA (a := { m.a with p := some q, g := y }) (t := m.t) hp hd gq (own q qO) qp hw hn c2 rfl f1 f2 (fun d τ u1 u2 u3 u4 => ?_) (fun d o τ u1 u2 u3 => ?_) (fun d o id τ i1 i2 i3 u1 u2 u3 u4 => ?_)
  ·simp only [if_pos d] at hk
   exact hk O τ same u1 ⟨⟨some q, y, u2, fun _ => ⟨q, rfl, qO, qp, u3⟩, fun e => by dsimp only at e; omega⟩, own, pO⟩ (k2 u4)
  ·simp only [d, o, Bool.true_eq_false, if_false, if_true] at hk
   exact hk O τ same u1 ⟨⟨some q, y, u2, fun e => by dsimp only at e; omega, fun e => by dsimp only at e; omega⟩, own, pO⟩ (k2 u3)
  ·simp only [d, o, Bool.true_eq_false, Bool.false_eq_true, if_false] at hk
   refine hk (id :: O) τ (fun i hi => by rcases List.mem_cons.1 hi with rfl | hi; exact .inr i1; exact .inl hi) u1 ⟨⟨some q, some id, u2, fun e => by dsimp only at e; omega, fun _ => ⟨id, rfl, List.mem_cons_self .., i3, by simpa using u3⟩⟩, fun i hi => ?_, List.mem_cons_of_mem _ pO⟩ (k2 u4)
   rcases List.mem_cons.1 hi with rfl | hi
   ·exact i2
   ·exact own i hi
 by_cases c3 : m.a.pc = 3
 ·obtain ⟨s1, s2⟩ := hf.spot (by omega) (by omega)
  simp only [if_neg c0, if_neg c1, if_neg c2, if_pos c3] at hk
  exact c_Al3 hN hC hA (a := { m.a with p := x, g := y }) hp hd hn c3 s1 hcl fun τ u1 u2 u3 => hk O τ same u1 ⟨⟨x, y, u2, fun e => by dsimp only at e; omega, fun e => by dsimp only at e; omega⟩, own, pO⟩ (k1 u3)
 by_cases c4 : m.a.pc = 4
 ·obtain ⟨s1, s2⟩ := hf.spot (by omega) (by omega)
  simp only [if_neg c0, if_neg c1, if_neg c2, if_neg c3, if_pos c4] at hk
  exact c_Al4 hN hA (a := { m.a with p := x, g := y }) hp hd c4 s2 fun τ u1 u2 u3 => hk O τ same u1 ⟨⟨x, y, u2, fun e => by dsimp only at e; omega, fun e => by dsimp only at e; omega⟩, own, pO⟩ (k1 u3)
 by_cases c5 : m.a.pc = 5
 ·simp only [if_neg c0, if_neg c1, if_neg c2, if_neg c3, if_neg c4, if_pos c5] at hk
  exact c_Al5 hN hC hA (a := { m.a with p := x, g := y }) hp hd hn c5 hat fun τ u1 u2 u3 => hk O τ same u1 ⟨⟨x, y, u2, fun e => by dsimp only at e; omega, fun e => by dsimp only at e; omega⟩, own, pO⟩ (k1 u3)
 by_cases c6 : m.a.pc = 6
 ·obtain ⟨s1, s2⟩ := hf.spot (by omega) (by omega)
  simp only [if_neg c0, if_neg c1, if_neg c2, if_neg c3, if_neg c4, if_neg c5, if_pos c6] at hk
  exact c_Al6 hN hA (a := { m.a with p := x, g := y }) hp hd c6 s2 fun τ u1 u2 u3 => hk O τ same u1 ⟨⟨x, y, u2, fun e => by omega, fun e => by omega⟩, own, pO⟩ (k1 u3)
 have c7 : m.a.pc = 7 := by omega
 obtain ⟨q, rfl, qO, qp, gq⟩ := h7 c7
 obtain ⟨f1, f2⟩ := hf.gv c7
 simp only [if_neg c0, if_neg c1, if_neg c2, if_neg c3, if_neg c4, if_neg c5, if_neg c6] at hk
 refine c_Al7 hN hC hA (a := { m.a with p := x, g := some q }) (g := m.g) hp gq (own q qO) hw hn c7 rfl f1 f2 fun τ u1 u2 u3 => ?_
 have hp' := u3.get hp (by simp only [List.mem_cons, not_or]; exact ⟨fun e => qp e.symm, hd⟩)
 exact hk O τ same u1 ⟨⟨x, some q, hp', fun e => by dsimp only at e; omega, fun _ => ⟨q, rfl, qO, qp, u2⟩⟩, own, pO⟩ (u3.mono fun i hi => by
  rcases List.mem_cons.1 hi with rfl | hi
  ·exact List.mem_append_left _ qO
  ·exact List.mem_append_right _ hi)
end Go.Fl
namespace Go.Fl
open Go
set_option linter.unusedVariables false
set_option linter.unusedSimpArgs false
variable {N : Nm} {A B : Ar} {σ : Mem} {K : Value → Mem → Prop} {C : Cf} {who : Int}
theorem Ob.done {p : Nat} {O : List Nat} {m : Am} (hA : isA N A σ) (h : Ob N p O m σ) (hk : K (.agg #[.int .i64 m.a.oE, .int .u64 m.a.oH, .int .i64 m.a.oV, .int .i64 m.a.oS]) σ) : s_ah [.pointer (some ⟨p, 0, none⟩)] K σ := by
 obtain ⟨⟨x, y, hp, _, _⟩, own, pO⟩ := h
 exact c_AllocDone hA (a := { m.a with p := x, g := y }) hp (own p pO) hk
theorem ob_new {s : Int} {o : Bool} (hA : isA N A σ) (hk : ∀ p τ, σ.get p = none → Ob N p [p] (Am.new s o) τ → Ext σ τ → K (.pointer (some ⟨p, 0, none⟩)) τ) : s_al [.int .i64 s, .bool o] K σ := by
 refine c_AllocNew fun p τ hp gp x => hk p τ hp ⟨⟨none, none, gp, (fun e => by cases e), (fun e => by cases e)⟩, fun i hi => ?_, List.mem_singleton.2 rfl⟩ x
 rw [List.mem_singleton.1 hi]; exact hA.new hp
theorem c_Make (hN : N.ok) (hC : C.ok) (hA : isA N A σ) {s : Int} {o : Bool} (I : Int → Am → Ar → Prop) (D : Am → Ar → Prop) (h0 : I 0 (Am.new s o) A)
  (hs : ∀ k m A, 0 ≤ k → k < 400 → I k m A → m.fit C A ∧ (∀ i, 0 ≤ A.w i ∧ A.w i < 18446744073709551616) ∧ C.len ≤ A.n ∧ if (m.step C who A).1 = true then D (m.step C who A).2.1 (m.step C who A).2.2 else I (k + 1) (m.step C who A).2.1 (m.step C who A).2.2)
  (he : ∀ m A, I 400 m A → D m A) (hk : ∀ m A' τ, D m A' → isA N A' τ → Keep N.l σ τ → K (.agg #[.int .i64 m.a.oE, .int .u64 m.a.oH, .int .i64 m.a.oV, .int .i64 m.a.oS]) τ) :
  s_bb [N.env C who, .int .i64 s, .bool o] K σ := by
 have gs : ∀ x y z w : Int, gStore 4 [.pointer (some ⟨6, 0, some 0⟩), .agg #[.int .i64 x, .int .u64 y, .int .i64 z, .int .i64 w]] [.int .i64 0, .int .u64 0, .int .i64 0, .int .i64 0] = some [.int .i64 x, .int .u64 y, .int .i64 z, .int .i64 w] := fun _ _ _ _ => rfl
 simp only [s_bb, w_bb, ruS, ruL, ruE, Nat.reduceAdd, reduceIte, Int.reduceLT, Int.reduceLE, Int.reduceEq, Int.reduceNeg, Int.reduceAdd, Int.reduceSub, Nat.reduceLeDiff, Nat.reduceLT]
 refine ob_new hA fun p τ0 hp ho x0 => ?_
 have fin : ∀ m A' τ, D m A' → isA N A' τ → (∃ O, Ob N p O m τ) → Keep N.l σ τ → w_bb_j1 K [.pointer (some ⟨p, 0, none⟩)] [[.int .i64 0, .int .u64 0, .int .i64 0, .int .i64 0]] τ := by
  rintro m A' τ hD hA' ⟨O, hO⟩ hK
  simp only [w_bb_j1, w_bb_j1b, ruS, ruL, ruE, Nat.reduceAdd, reduceIte, Int.reduceLT, Int.reduceLE, Int.reduceEq, Int.reduceNeg, Int.reduceAdd, Int.reduceSub, Nat.reduceLeDiff, Nat.reduceLT]
  refine Ob.done hA' hO ?_
  simp only [gs, sub4, ruS, ruL, ruE, Nat.reduceAdd, reduceIte, Int.reduceLT, Int.reduceLE, Int.reduceEq, Int.reduceNeg, Int.reduceAdd, Int.reduceSub, Nat.reduceLeDiff, Nat.reduceLT]
  exact hk m A' τ hD hA' hK
 refine xLoop_i (fun i => [.pointer (some ⟨p, 0, none⟩), .int .i64 i]) [N.el C who, [.int .i64 0, .int .u64 0, .int .i64 0, .int .i64 0]] 400
  (fun i τ => ∃ m A' O, 0 ≤ i ∧ i ≤ 400 ∧ isA N A' τ ∧ I i m A' ∧ Ob N p O m τ ∧ (∀ j ∈ O, σ.get j = none) ∧ Keep N.l σ τ) ?_ ⟨_, A, [p], by omega, by omega, hA.ext x0, h0, ho, fun j hj => by rw [List.mem_singleton.1 hj]; exact hp, x0.keep⟩
 rintro i τ ⟨m, A', O, i0, i1, hA', hI, hO, hOn, hK⟩ R hR
 simp only [w_law08_Make_l4, w_law08_Make_l4b, ruS, ruL, ruE, Nat.reduceAdd, reduceIte, Int.reduceLT, Int.reduceLE, Int.reduceEq, Int.reduceNeg, Int.reduceAdd, Int.reduceSub, Nat.reduceLeDiff, Nat.reduceLT]
 by_cases ci : i < 400
 ·simp only [ci, ruS, ruL, ruE, Nat.reduceAdd, reduceIte, Int.reduceLT, Int.reduceLE, Int.reduceEq, Int.reduceNeg, Int.reduceAdd, Int.reduceSub, Nat.reduceLeDiff, Nat.reduceLT]
  obtain ⟨hf, hw, hn, hst⟩ := hs i m A' i0 ci hI
  refine c_Alloc_Step hN hC hA' hO hw hn hf fun O' τ' hO' hA2 hO2 hK2 => ?_
  have hK3 : Keep N.l σ τ' := by
   intro j b hj hn'
   refine hK2 j b (hK j b hj hn') fun hm => ?_
   rcases List.mem_append.1 hm with h | h
   ·rw [hOn j h] at hj; cases hj
   ·exact hn' h
  have hOn' : ∀ j ∈ O', σ.get j = none := by
   intro j hj
   rcases hO' j hj with h | h
   ·exact hOn j h
   ·cases e : σ.get j with
    | none => rfl
    | some b => rw [hK j b e (hA'.new h)] at h; cases h
  generalize m.step C who A' = r at *
  obtain ⟨d, m', A2⟩ := r
  dsimp only at *
  cases d with
  | true =>
   simp only [ruS, ruL, ruE, Nat.reduceAdd, reduceIte, Int.reduceLT, Int.reduceLE, Int.reduceEq, Int.reduceNeg, Int.reduceAdd, Int.reduceSub, Nat.reduceLeDiff, Nat.reduceLT] at hst ⊢
   exact fin m' A2 τ' hst hA2 ⟨O', hO2⟩ hK3
  | false =>
   simp only [ruS, ruL, ruE, Nat.reduceAdd, reduceIte, Int.reduceLT, Int.reduceLE, Int.reduceEq, Int.reduceNeg, Int.reduceAdd, Int.reduceSub, Nat.reduceLeDiff, Nat.reduceLT] at hst ⊢
   rw [IntWalk.i64_in (i + 1) (by omega)]
   exact hR _ ci ⟨m', A2, O', by omega, by omega, hA2, hst, hO2, hOn', hK3⟩
 ·simp only [ci, ruS, ruL, ruE, Nat.reduceAdd, reduceIte, Int.reduceLT, Int.reduceLE, Int.reduceEq, Int.reduceNeg, Int.reduceAdd, Int.reduceSub, Nat.reduceLeDiff, Nat.reduceLT]
  have : i = 400 := by omega
  subst this
  exact fin m A' τ (he _ _ hI) hA' ⟨O, hO⟩ hK
end Go.Fl
namespace Go.Fl
open Go
set_option linter.unusedVariables false
set_option linter.unusedSimpArgs false
variable {N : Nm} {A B : Ar} {σ : Mem} {K : Value → Mem → Prop} {C : Cf} {who : Int}
structure Alo (C : Cf) (o u : Int → Int) (nx : Int) (w : Int → Int) : Prop where
 bd : 0 ≤ nx ∧ nx ≤ C.C
 op : ∀ c, 0 ≤ c → c ≤ 3 → w (2 + c) = o c + 1 ∧ -1 ≤ o c ∧ o c < nx
 cls : ∀ c, 0 ≤ c → c ≤ 3 → 0 ≤ o c → chC (w (C.chunk (o c))) = c
 old : ∀ j, 0 ≤ j → j < nx → chS (w (C.chunk j)) = 1 ∧ chU (w (C.chunk j)) = u j ∧ 0 ≤ u j ∧ u j ≤ C.W
 new : ∀ j, nx ≤ j → j < C.C → w (C.chunk j) = 0 ∧ u j = 0
def good (C : Cf) (o u : Int → Int) (c : Int) : Prop := 0 ≤ o c ∧ u (o c) + roomOf c ≤ C.W
theorem Alo.take (hC : C.ok) {o u w : Int → Int} {nx c : Int} (h : Alo C o u nx w) (c0 : 0 ≤ c) (c3 : c ≤ 3) (hn : nx < C.C) :
  Alo C (upd o c nx) u (nx + 1) (upd (upd w (C.chunk nx) (putChunk 1 c 0 1)) (2 + c) (nx + 1)) := by
 have hW := hC.W
 obtain ⟨p1, p2, p3, p4⟩ := ch_put (st := 1) (c := c) (us := 0) (sp := 1) (by omega) (by omega) (by omega) (by omega)
 have wc : ∀ j, 0 ≤ j → j ≠ nx → upd (upd w (C.chunk nx) (putChunk 1 c 0 1)) (2 + c) (nx + 1) (C.chunk j) = w (C.chunk j) := by
  intro j j0 hj
  rw [upd_ne _ _ (chunk_ne hC j0 c3), upd_ne _ _ (fun e => hj (chunk_inj e))]
 have wn : upd (upd w (C.chunk nx) (putChunk 1 c 0 1)) (2 + c) (nx + 1) (C.chunk nx) = putChunk 1 c 0 1 := by
  rw [upd_ne _ _ (chunk_ne hC h.bd.1 c3), upd_same]
 have un := (h.new nx (Int.le_refl _) hn).2
 refine ⟨⟨by have := h.bd; omega, by omega⟩, fun k k0 k3 => ?_, fun k k0 k3 hk => ?_, fun j j0 j1 => ?_, fun j j0 j1 => ?_⟩
 ·by_cases e : k = c
  ·subst e; rw [upd_same, upd_same]; have := h.bd; omega
  ·rw [upd_ne _ _ (by omega), upd_ne _ _ (fun q => chunk_ne hC h.bd.1 k3 q.symm), upd_ne _ _ e]
   have := h.op k k0 k3; omega
 ·by_cases e : k = c
  ·subst e; rw [upd_same] at hk ⊢; rw [wn]; exact p2
  ·rw [upd_ne _ _ e] at hk ⊢
   have := h.op k k0 k3
   rw [wc _ hk (by omega)]; exact h.cls k k0 k3 hk
 ·by_cases e : j = nx
  ·subst e; rw [wn, un]; exact ⟨p1, p3, by omega, by omega⟩
  ·rw [wc _ j0 e]; exact h.old j j0 (by omega)
 ·have := h.bd
  rw [wc _ (by omega) (by omega)]; exact h.new j (by omega) j1
theorem Alo.give (hC : C.ok) {o u w : Int → Int} {nx c : Int} (h : Alo C o u nx w) (c0 : 0 ≤ c) (c3 : c ≤ 3) (hg : good C o u c) :
  Alo C o (upd u (o c) (u (o c) + roomOf c)) nx (upd w (C.chunk (o c)) (putChunk (chS (w (C.chunk (o c)))) (chC (w (C.chunk (o c)))) (chU (w (C.chunk (o c))) + roomOf c) (chN (w (C.chunk (o c)))))) := by
 have hW := hC.W
 have ho := h.op c c0 c3
 have hold := h.old (o c) hg.1 ho.2.2
 have hr := room_bd c0 c3
 have hg2 := hg.2
 have hcl := h.cls c c0 c3 hg.1
 obtain ⟨p1, p2, p3, p4⟩ := ch_put (chS_bd (w (C.chunk (o c)))) (chC_bd (w (C.chunk (o c)))) (us := chU (w (C.chunk (o c))) + roomOf c) (by have := hold.2.1; omega) (chN_bd (w (C.chunk (o c))))
 refine ⟨h.bd, fun k k0 k3 => ?_, fun k k0 k3 hk => ?_, fun j j0 j1 => ?_, fun j j0 j1 => ?_⟩
 ·rw [upd_ne _ _ (fun q => chunk_ne hC hg.1 k3 q.symm)]; exact h.op k k0 k3
 ·have := h.cls k k0 k3 hk
  by_cases e : o k = o c
  ·rw [e, upd_same, p2, hcl, ← this, e, hcl]
  ·rw [upd_ne _ _ (fun q => e (chunk_inj q))]; exact this
 ·by_cases e : j = o c
  ·subst e; rw [upd_same, upd_same, p1, p3, hold.1, hold.2.1]; omega
  ·rw [upd_ne _ _ (fun q => e (chunk_inj q)), upd_ne _ _ e]; exact h.old j j0 j1
 ·rw [upd_ne _ _ (fun q => by have := chunk_inj q; omega), upd_ne _ _ (by omega)]; exact h.new j j0 j1
def Ph (C : Cf) (o u : Int → Int) (nx c k : Int) (p : Pl) (w : Int → Int) : Prop :=
  p.ok = false ∧ p.cls = c ∧ (
    (good C o u c ∧ Alo C o u nx w ∨ ¬ good C o u c ∧ nx < C.C ∧ good C (upd o c nx) u c ∧ Alo C (upd o c nx) u (nx + 1) w) ∧
      (let j := w (2 + c) - 1
       p.pc = 0 ∧ k ≤ C.C + 8 ∨ p.pc = 1 ∧ p.at' = j ∧ k ≤ C.C + 9 ∨ p.pc = 2 ∧ p.at' = j ∧ p.w = w (C.chunk j) ∧ k ≤ C.C + 10) ∨
    ¬ good C o u c ∧ (Alo C o u nx w ∧ (p.pc = 0 ∧ k ≤ 0 ∨ p.opn = w (2 + c) ∧
        (p.pc = 1 ∧ p.at' = o c ∧ 0 ≤ o c ∧ k ≤ 1 ∨ p.pc = 3 ∧ p.at' ≤ nx ∧ k ≤ 2 + p.at' ∨ p.pc = 4 ∧ p.at' = nx ∧ p.w = 0 ∧ k ≤ C.C + 6)) ∨
      p.pc = 5 ∧ p.at' = nx ∧ nx < C.C ∧ p.w = 0 ∧ k ≤ C.C + 7 ∧ ∃ w0, Alo C o u nx w0 ∧ p.opn = w0 (2 + c) ∧ w = upd w0 (C.chunk nx) (putChunk 1 c 0 1)))
def Dn (C : Cf) (o u : Int → Int) (nx c : Int) (p : Pl) (w : Int → Int) : Prop :=
 (good C o u c ∧ p.ok = true ∧ p.sa = C.base (o c) + u (o c) ∧ p.sc = o c ∧ Alo C o (upd u (o c) (u (o c) + roomOf c)) nx w) ∨
 (¬ good C o u c ∧ nx < C.C ∧ p.ok = true ∧ p.sa = C.base nx + u nx ∧ p.sc = nx ∧ Alo C (upd o c nx) (upd u nx (u nx + roomOf c)) (nx + 1) w) ∨
 (¬ good C o u c ∧ nx = C.C ∧ p.ok = false ∧ Alo C o u nx w)
theorem Ph.step (hC : C.ok) {o u : Int → Int} {nx c k b : Int} {p : Pl} (c0 : 0 ≤ c) (c3 : c ≤ 3) (ok : A.ok b) (hb : b < 4611686018427387904) (hf : p.fit C) (h : Ph C o u nx c k p A.w) :
  if (p.step C who A).1 = true then Dn C o u nx c (p.step C who A).2.1 (p.step C who A).2.2.w else Ph C o u nx c (k + 1) (p.step C who A).2.1 (p.step C who A).2.2.w := by
 obtain ⟨ho, hcl, h⟩ := h
 have hC3 := hC.C
 have hr := room_bd c0 c3
 have hf3 := hf.at'
 subst hcl
 rcases h with ⟨hA, h⟩ | ⟨hg, h⟩
 · -- an open chunk has room
  obtain ⟨o1, nx1, hA1, hg1, hfin⟩ : ∃ o1 nx1, Alo C o1 u nx1 A.w ∧ good C o1 u p.cls ∧ ∀ q : Pl, q.ok = true → q.sa = C.base (o1 p.cls) + u (o1 p.cls) → q.sc = o1 p.cls → ∀ w', Alo C o1 (upd u (o1 p.cls) (u (o1 p.cls) + roomOf p.cls)) nx1 w' → Dn C o u nx p.cls q w' := by
   rcases hA with ⟨g, a⟩ | ⟨g, n, g', a⟩
   ·exact ⟨o, nx, a, g, fun q q1 q2 q3 w' h => .inl ⟨g, q1, q2, q3, h⟩⟩
   ·refine ⟨upd o p.cls nx, nx + 1, a, g', fun q q1 q2 q3 w' h => .inr (.inl ⟨g, n, q1, ?_, ?_, ?_⟩)⟩
    ·rw [q2, upd_same]
    ·rw [q3, upd_same]
    ·rw [upd_same] at h; exact h
  have hop := hA1.op p.cls c0 c3
  have hold := hA1.old (o1 p.cls) hg1.1 hop.2.2
  have hc := hA1.cls p.cls c0 c3 hg1.1
  have hbd := hA1.bd
  have hg2 := hg1.2
  have hj : A.w (2 + p.cls) - 1 = o1 p.cls := by omega
  have hj0 := hg1.1
  dsimp only at h
  have hwr : IntKind.i64.wrap (A.w (2 + p.cls)) = A.w (2 + p.cls) := IntWalk.i64_in _ (by omega)
  rcases h with ⟨h1, hk⟩ | ⟨h1, h2, hk⟩ | ⟨h1, h2, h3, hk⟩
  ·rw [Pl.s0b h1 (by rw [hwr]; omega), hwr]
   exact stFl ⟨ho, rfl, .inl ⟨hA, .inr (.inl ⟨rfl, rfl, by omega⟩)⟩⟩
  ·have h2' := h2.trans hj
   rw [Pl.s1b h1 (by rw [h2']; omega)]
   refine stFl ⟨ho, rfl, .inl ⟨hA, .inr (.inr ⟨rfl, h2, ?_, by omega⟩)⟩⟩
   show A.w (C.chunk p.at') = A.w (C.chunk (A.w (2 + p.cls) - 1)); rw [h2]
  ·have h2' := h2.trans hj
   have h3' : A.w (C.chunk p.at') = p.w := by rw [h3, h2]
   have a1 := aft_cas (who := who) (A := A) (a := C.chunk p.at') (o := p.w) (v := putChunk (chS p.w) (chC p.w) (chU p.w + roomOf p.cls) (chN p.w)) ok (by omega)
   rw [if_pos h3'] at a1
   rw [Pl.s2a h1 h3']
   refine stTr (hfin _ rfl ?_ h2' _ ?_)
   ·show C.base p.at' + chU p.w = _
    rw [← h3', h2', hold.2.1]
   ·rw [a1.w, ← h3', h2']; exact hA1.give hC c0 c3 hg1
 rcases h with ⟨hA, h⟩ | ⟨h1, h2, h3, h4, hk, w0, hA, h5, h6⟩
 ·have hop := hA.op p.cls c0 c3
  have hnx := hA.bd
  have hwr : IntKind.i64.wrap (A.w (2 + p.cls)) = A.w (2 + p.cls) := IntWalk.i64_in _ (by omega)
  rcases h with ⟨h1, hk⟩ | ⟨hop2, ⟨h1, h2, h3, hk⟩ | ⟨h1, h2, hk⟩ | ⟨h1, h2, h3, hk⟩⟩
  ·by_cases e : A.w (2 + p.cls) - 1 < 0
   ·rw [Pl.s0a h1 (by rw [hwr]; exact e)]
    exact stFl ⟨ho, rfl, .inr ⟨hg, .inl ⟨hA, .inr ⟨rfl, .inr (.inl ⟨rfl, hnx.1, by show k + 1 ≤ 2 + 0; omega⟩)⟩⟩⟩⟩
   ·rw [Pl.s0b h1 (by rw [hwr]; exact e), hwr]
    exact stFl ⟨ho, rfl, .inr ⟨hg, .inl ⟨hA, .inr ⟨rfl, .inl ⟨rfl, by show A.w (2 + p.cls) - 1 = _; omega, by omega, by omega⟩⟩⟩⟩⟩
  ·have hold := hA.old (o p.cls) h3 hop.2.2
   have hng : ¬ (u (o p.cls) + roomOf p.cls ≤ C.W) := fun q => hg ⟨h3, q⟩
   rw [Pl.s1a h1 (by rw [h2]; omega)]
   exact stFl ⟨ho, rfl, .inr ⟨hg, .inl ⟨hA, .inr ⟨hop2, .inr (.inl ⟨rfl, hnx.1, by show k + 1 ≤ 2 + 0; omega⟩)⟩⟩⟩⟩
  ·by_cases e : p.at' = nx
   ·have hz := (hA.new nx (Int.le_refl _) (by omega)).1
    rw [Pl.s3b h1 (by rw [e, hz]; decide)]
    exact stFl ⟨ho, rfl, .inr ⟨hg, .inl ⟨hA, .inr ⟨hop2, .inr (.inr ⟨rfl, e, by show A.w (C.chunk p.at') = 0; rw [e, hz], by omega⟩)⟩⟩⟩⟩
   ·have hold := hA.old p.at' hf3.1 (by omega)
    rw [Pl.s3a h1 (by omega)]
    by_cases e2 : C.C ≤ p.at' + 1
    ·rw [decide_eq_true e2]
     exact stTr (.inr (.inr ⟨hg, by omega, ho, hA⟩))
    ·rw [decide_eq_false e2]
     exact stFl ⟨ho, rfl, .inr ⟨hg, .inl ⟨hA, .inr ⟨hop2, .inr (.inl ⟨rfl, by show p.at' + 1 ≤ nx; omega, by show k + 1 ≤ 2 + (p.at' + 1); omega⟩)⟩⟩⟩⟩
  ·have hz := (hA.new nx (Int.le_refl _) (by omega)).1
   have hz' : A.w (C.chunk p.at') = p.w := by rw [h2, hz, h3]
   rw [Pl.s4a h1 hz']
   have a1 := aft_cas (who := who) (A := A) (a := C.chunk p.at') (o := p.w) (v := p.fresh) ok (by omega)
   rw [if_pos hz'] at a1
   refine stFl ⟨ho, rfl, .inr ⟨hg, .inr ⟨rfl, h2, by omega, h3, by omega, A.w, hA, hop2, ?_⟩⟩⟩
   rw [a1.w]
   have : p.fresh = putChunk 1 p.cls 0 1 := by unfold Pl.fresh; rw [h3]; rfl
   rw [this, h2]
 ·have e : A.w (2 + p.cls) = p.opn := by rw [h6, upd_ne _ _ (fun q => chunk_ne hC hA.bd.1 c3 q.symm), h5]
  rw [Pl.s5a h1 e]
  have a1 := aft_cas (who := who) (A := A) (a := 2 + p.cls) (o := p.opn) (v := p.at' + 1) ok (by omega)
  rw [if_pos e] at a1
  rw [a1.w, h6, h2]
  have hu := (hA.new nx (Int.le_refl _) h3).2
  have hW := hC.W
  exact stFl ⟨ho, rfl, .inl ⟨.inr ⟨hg, h3, ⟨by rw [upd_same]; exact hA.bd.1, by rw [upd_same, hu]; omega⟩, hA.take hC c0 c3 h3⟩, .inl ⟨rfl, by omega⟩⟩⟩
end Go.Fl
namespace Go.Fl
open Go
set_option linter.unusedVariables false
set_option linter.unusedSimpArgs false
variable {N : Nm} {A B : Ar} {σ : Mem} {K : Value → Mem → Prop} {C : Cf} {who : Int}
theorem Tk.step0 {a b c : Int} {d : Bool} : (Tk.mk 0 a b c d).step C who A = (decide (topS (A.w 1) < 0), ⟨1, A.w 1, b, topS (A.w 1), d⟩, (A.by who).load 1) := nr rfl
theorem Tk.step1 {a b c : Int} {d : Bool} : (Tk.mk 1 a b c d).step C who A = (d, ⟨2, a, topS (A.w (C.slot c + 1)), c, d⟩, (A.by who).load (C.slot c + 1)) := nr rfl
theorem Tk.step2 {a b c : Int} {d : Bool} : (Tk.mk 2 a b c d).step C who A = (decide (A.w 1 = a), ⟨0, a, b, c, decide (A.w 1 = a)⟩, (A.by who).cas 1 a (putTop b (topN a + 1))) := nr rfl
theorem topS_ge (w : Int) (h : 0 ≤ w) : -1 ≤ topS w := by unfold topS; omega
def tookW (C : Cf) (w : Int → Int) : Int → Int := upd w 1 (putTop (topS (w (C.slot (topS (w 1)) + 1))) (topN (w 1) + 1))
theorem Gv.step0 {a b : Int} : (Gv.mk 0 a b).step C who A = (false, ⟨1, a, A.w 1⟩, (A.by who).load 1) := nr rfl
theorem Gv.step1 {a b : Int} : (Gv.mk 1 a b).step C who A = (false, ⟨2, a, b⟩, (A.by who).store (C.slot a + 1) (putTop (topS b) 0)) := nr rfl
theorem Gv.step2 {a b : Int} : (Gv.mk 2 a b).step C who A = (decide (A.w 1 = b), ⟨0, a, b⟩, (A.by who).cas 1 b (putTop a (topN b + 1))) := nr rfl
def gaveW (C : Cf) (s : Int) (w : Int → Int) : Int → Int := upd (upd w (C.slot s + 1) (putTop (topS (w 1)) 0)) 1 (putTop s (topN (w 1) + 1))
def Chn (C : Cf) (w : Int → Int) : Int → List Int → Prop
 | f, [] => f = -1
 | f, s :: l => f = s ∧ 0 ≤ s ∧ s < C.S ∧ Chn C w (topS (w (C.slot s + 1))) l
structure Fre (C : Cf) (w : Int → Int) (l : List Int) : Prop where
 c : Chn C w (topS (w 1)) l
 nd : l.Nodup
theorem topS_put {s c : Int} (h0 : -1 ≤ s) (h1 : s ≤ 65535) : topS (putTop s c) = s := by unfold topS putTop cl; omega
theorem Chn.mem {w : Int → Int} : ∀ {l : List Int} {f : Int}, Chn C w f l → ∀ s ∈ l, 0 ≤ s ∧ s < C.S
 | [], _, _, s, h => by cases h
 | x :: l, f, hc, s, h => by
  rcases List.mem_cons.1 h with rfl | h
  ·exact ⟨hc.2.1, hc.2.2.1⟩
  ·exact Chn.mem hc.2.2.2 s h
theorem Chn.congr {w w' : Int → Int} : ∀ {l : List Int} {f : Int}, Chn C w f l → (∀ s ∈ l, topS (w' (C.slot s + 1)) = topS (w (C.slot s + 1))) → Chn C w' f l
 | [], _, h, _ => h
 | x :: l, f, hc, h => ⟨hc.1, hc.2.1, hc.2.2.1, by rw [h x (by simp)]; exact Chn.congr hc.2.2.2 fun s hs => h s (by simp [hs])⟩
theorem Chn.first {w : Int → Int} {l : List Int} {f : Int} (h : Chn C w f l) : -1 ≤ f ∧ f < C.S ∨ C.S < 0 := by
 cases l with
 | nil => unfold Chn at h; omega
 | cons x l => have := h.1; have := h.2.1; have := h.2.2.1; omega
theorem slot_inj (C : Cf) {s t : Int} (h : C.slot s + 1 = C.slot t + 1) : s = t := by unfold Cf.slot at h; omega
theorem Fre.took (hC : C.ok) {w : Int → Int} {s : Int} {l : List Int} (h : Fre C w (s :: l)) : Fre C (tookW C w) l ∧ topS (w 1) = s := by
 have hT := hC.T
 have hS := hC.S
 have h1 := h.c.1
 have h2 := h.c.2.2.2
 refine ⟨⟨?_, (List.nodup_cons.1 h.nd).2⟩, h1⟩
 have hf := h2.first
 have e : topS (tookW C w 1) = topS (w (C.slot s + 1)) := by
  unfold tookW; rw [upd_same, h1, topS_put (by omega) (by omega)]
 rw [e]
 refine h2.congr fun t ht => ?_
 unfold tookW
 rw [upd_ne]
 have := h2.mem t ht
 unfold Cf.slot; omega
theorem Fre.gave (hC : C.ok) {w : Int → Int} {s : Int} {l : List Int} (h : Fre C w l) (hs : 0 ≤ s ∧ s < C.S) (hn : s ∉ l) : Fre C (gaveW C s w) (s :: l) := by
 have hT := hC.T
 have hS := hC.S
 have hf := h.c.first
 have e0 : gaveW C s w 1 = putTop s (topN (w 1) + 1) := upd_same _ _ _
 have e1 : gaveW C s w (C.slot s + 1) = putTop (topS (w 1)) 0 := by
  unfold gaveW; rw [upd_ne _ _ (by unfold Cf.slot; omega), upd_same]
 refine ⟨⟨by rw [e0, topS_put (by omega) (by omega)], hs.1, hs.2, ?_⟩, List.nodup_cons.2 ⟨hn, h.nd⟩⟩
 rw [e1, topS_put (by omega) (by omega)]
 refine h.c.congr fun t ht => ?_
 have := h.c.mem t ht
 unfold gaveW
 rw [upd_ne _ _ (by unfold Cf.slot; omega), upd_ne]
 intro e
 have := slot_inj C e
 subst this; exact hn ht
def upL (i : Int) : Nat → List Int
 | 0 => []
 | n + 1 => i :: upL (i + 1) n
theorem upL_mem : ∀ {n : Nat} {i s : Int}, s ∈ upL i n ↔ i ≤ s ∧ s < i + n
 | 0, i, s => by simp [upL]
 | n + 1, i, s => by
  simp only [upL, List.mem_cons, upL_mem (n := n)]; omega
theorem upL_nodup : ∀ {n : Nat} {i : Int}, (upL i n).Nodup
 | 0, i => by simp [upL]
 | n + 1, i => by
  refine List.nodup_cons.2 ⟨fun h => ?_, upL_nodup⟩
  have := (upL_mem (n := n)).1 h
  omega
theorem w0_link (hC : C.ok) {s : Int} (h0 : 0 ≤ s) (h1 : s < C.S) : topS (C.w0 (C.slot s + 1)) = if s = C.S - 1 then -1 else s + 1 := by
 have hT := hC.T
 have hS := hC.S
 unfold Cf.w0
 rw [if_neg (by unfold Cf.slot; omega)]
 by_cases e : s = C.S - 1
 ·rw [if_pos (by rw [e]), if_pos e, topS_put (by omega) (by omega)]
 ·rw [if_neg (by unfold Cf.slot; omega), if_neg e]
  unfold Cf.fr Cf.slot
  rw [if_pos (by omega), if_neg (by omega), topS_put (by omega) (by omega)]
  omega
theorem fre0 (hC : C.ok) : Fre C C.w0 (upL 0 C.S.toNat) := by
 have hS := hC.S
 refine ⟨?_, upL_nodup⟩
 have e : topS (C.w0 1) = 0 := by unfold Cf.w0; rw [if_pos rfl, topS_put (by omega) (by omega)]
 rw [e]
 have key : ∀ (n : Nat) (i : Int), 0 ≤ i → i + n = C.S → Chn C C.w0 (if i = C.S then -1 else i) (upL i n) := by
  intro n
  induction n with
  | zero => intro i _ h; rw [if_pos (by omega)]; rfl
  | succ n ih =>
   intro i h0 h
   rw [if_neg (by omega)]
   refine ⟨rfl, h0, by omega, ?_⟩
   rw [w0_link hC h0 (by omega)]
   have := ih (i + 1) (by omega) (by omega)
   by_cases q : i = C.S - 1
   ·rw [if_pos (by omega)] at this; rw [if_pos q]; exact this
   ·rw [if_neg (by omega)] at this; rw [if_neg q]; exact this
 have := key C.S.toNat 0 (by omega) (by omega)
 rwa [if_neg (by omega)] at this
end Go.Fl
namespace Go.Fl
open Go
set_option linter.unusedVariables false
set_option linter.unusedSimpArgs false
variable {N : Nm} {A B : Ar} {σ : Mem} {K : Value → Mem → Prop} {C : Cf} {who : Int}
theorem Alo.congr {o u w w' : Int → Int} {nx : Int} (h : Alo C o u nx w) (h1 : ∀ c, 0 ≤ c → c ≤ 3 → w' (2 + c) = w (2 + c)) (h2 : ∀ j, 0 ≤ j → j < C.C → w' (C.chunk j) = w (C.chunk j)) : Alo C o u nx w' := by
 have hb := h.bd
 refine ⟨h.bd, fun c c0 c3 => by rw [h1 c c0 c3]; exact h.op c c0 c3, fun c c0 c3 hc => ?_, fun j j0 j1 => by rw [h2 j j0 (by omega)]; exact h.old j j0 j1, fun j j0 j1 => by rw [h2 j (by omega) j1]; exact h.new j j0 j1⟩
 have := h.op c c0 c3
 rw [h2 _ hc (by omega)]; exact h.cls c c0 c3 hc
theorem Fre.congr {F : List Int} {w w' : Int → Int} (h : Fre C w F) (h1 : w' 1 = w 1) (h2 : ∀ s, 0 ≤ s → s < C.S → w' (C.slot s + 1) = w (C.slot s + 1)) : Fre C w' F :=
 ⟨by rw [h1]; exact h.c.congr fun s hs => by have := h.c.mem s hs; rw [h2 s this.1 this.2], h.nd⟩
structure Aw (C : Cf) (F : List Int) (o u lv : Int → Int) (nx : Int) (w : Int → Int) : Prop where
 fre : Fre C w F
 alo : Alo C o u nx w
 live : ∀ j, 0 ≤ j → j < C.C → w (C.chunk j + 1) = lv j
 nil : ∀ j i, 0 ≤ j → j < C.C → u j ≤ i → i < C.W → w (C.base j + i) = 0
theorem base_of (hC : C.ok) {j i : Int} (j0 : 0 ≤ j) (j1 : j < C.C) (i0 : 0 ≤ i) (i1 : i < C.W) : ofC C (C.base j + i) = j ∧ 0 ≤ C.base j + i ∧ C.base j + i < C.len := by
 have hW := hC.W
 have hT := hC.T
 have hS := hC.S
 have hC3 := hC.C
 have hm := mulW hC j0 (by omega)
 have hm2 : C.W * (j + 1) ≤ C.W * C.C := Int.mul_le_mul_of_nonneg_left (by omega) (by omega)
 rw [Int.mul_add, Int.mul_one] at hm2
 have e0 : C.base 0 = 6 + C.T + 2 * C.S + 3 * C.C := by unfold Cf.base; omega
 have ej : C.base j = 6 + C.T + 2 * C.S + 3 * C.C + C.W * j := rfl
 have el : C.len = 6 + C.T + 2 * C.S + 3 * C.C + C.W * C.C := rfl
 refine ⟨?_, by omega, by omega⟩
 unfold ofC
 rw [if_pos (by omega), show C.base j + i - C.base 0 = i + C.W * j by omega, Int.add_mul_ediv_left _ _ (by omega), Int.ediv_eq_zero_of_lt i0 i1]
 omega
theorem base_inj (hC : C.ok) {j i k l : Int} (j0 : 0 ≤ j) (j1 : j < C.C) (i0 : 0 ≤ i) (i1 : i < C.W) (k0 : 0 ≤ k) (k1 : k < C.C) (l0 : 0 ≤ l) (l1 : l < C.W) (h : C.base j + i = C.base k + l) : j = k ∧ i = l := by
 have a := (base_of hC j0 j1 i0 i1).1
 have b := (base_of hC k0 k1 l0 l1).1
 rw [h, b] at a
 subst a
 exact ⟨rfl, by omega⟩
theorem base_ge (hC : C.ok) {j i : Int} (j0 : 0 ≤ j) (j1 : j < C.C) (i0 : 0 ≤ i) : 6 + C.T + 2 * C.S + 3 * C.C ≤ C.base j + i := by
 have := mulW hC j0 (by have := hC.C; omega)
 unfold Cf.base; omega
section
variable {F : List Int} {o u lv w w' : Int → Int} {nx : Int}
theorem Aw.keep (hC : C.ok) (h : Aw C F o u lv nx w) (h1 : ∀ a, a = 1 ∨ (2 ≤ a ∧ a < 6) ∨ (∃ s, 0 ≤ s ∧ s < C.S ∧ a = C.slot s + 1) ∨ (∃ j, 0 ≤ j ∧ j < C.C ∧ (a = C.chunk j ∨ a = C.chunk j + 1)) ∨ (∃ j i, 0 ≤ j ∧ j < C.C ∧ u j ≤ i ∧ i < C.W ∧ a = C.base j + i) → w' a = w a) : Aw C F o u lv nx w' :=
  ⟨h.fre.congr (h1 1 (.inl rfl)) fun s s0 s1 => h1 _ (.inr (.inr (.inl ⟨s, s0, s1, rfl⟩))),
   h.alo.congr (fun c c0 c3 => h1 _ (.inr (.inl ⟨by omega, by omega⟩))) fun j j0 j1 => h1 _ (.inr (.inr (.inr (.inl ⟨j, j0, j1, .inl rfl⟩)))),
   fun j j0 j1 => by rw [h1 _ (.inr (.inr (.inr (.inl ⟨j, j0, j1, .inr rfl⟩))))]; exact h.live j j0 j1,
   fun j i j0 j1 i0 i1 => by rw [h1 _ (.inr (.inr (.inr (.inr ⟨j, i, j0, j1, i0, i1, rfl⟩))))]; exact h.nil j i j0 j1 i0 i1⟩
theorem Aw.u0 (h : Aw C F o u lv nx w) {j : Int} (j0 : 0 ≤ j) (j1 : j < C.C) : 0 ≤ u j := by
 by_cases e : j < nx
 ·exact (h.alo.old j j0 e).2.2.1
 ·rw [(h.alo.new j (by omega) j1).2]; exact Int.le_refl 0
theorem Aw.slotw (hC : C.ok) (h : Aw C F o u lv nx w) {s v : Int} (s0 : 0 ≤ s) (s1 : s < C.S) : Aw C F o u lv nx (upd w (C.slot s) v) := by
 have hT := hC.T
 refine h.keep hC fun a ha => upd_ne _ _ ?_
 have e : C.slot s = 6 + C.T + 2 * s := rfl
 rcases ha with ha | ha | ⟨t, t0, t1, ha⟩ | ⟨j, j0, j1, ha⟩ | ⟨j, i, j0, j1, i0, i1, ha⟩
 ·omega
 ·omega
 ·have : C.slot t = 6 + C.T + 2 * t := rfl
  omega
 ·have : C.chunk j = 6 + C.T + 2 * C.S + 3 * j := rfl
  omega
 ·have := base_ge hC j0 j1 (i := i) (by have := h.u0 j0 j1; omega)
  have := hC.C
  omega
theorem Aw.word (hC : C.ok) (h : Aw C F o u lv nx w) {k l v : Int} (k0 : 0 ≤ k) (k1 : k < C.C) (l0 : 0 ≤ l) (l1 : l < u k) (l2 : l < C.W) : Aw C F o u lv nx (upd w (C.base k + l) v) := by
 have hT := hC.T
 have hb := base_ge hC k0 k1 l0
 have hCC := hC.C
 have hS := hC.S
 refine h.keep hC fun a ha => upd_ne _ _ ?_
 rcases ha with ha | ha | ⟨t, t0, t1, ha⟩ | ⟨j, j0, j1, ha⟩ | ⟨j, i, j0, j1, i0, i1, ha⟩
 ·omega
 ·omega
 ·have : C.slot t = 6 + C.T + 2 * t := rfl
  omega
 ·have : C.chunk j = 6 + C.T + 2 * C.S + 3 * j := rfl
  omega
 ·have hu := h.u0 j0 j1
  rw [ha]
  intro q
  obtain ⟨rfl, rfl⟩ := base_inj hC j0 j1 (by omega) i1 k0 k1 l0 l2 q
  omega
theorem Aw.lives (hC : C.ok) (h : Aw C F o u lv nx w) {k v : Int} (k0 : 0 ≤ k) (k1 : k < C.C) : Aw C F o u (upd lv k v) nx (upd w (C.chunk k + 1) v) := by
 have hT := hC.T
 have hS := hC.S
 have e : C.chunk k = 6 + C.T + 2 * C.S + 3 * k := rfl
 have n1 : ∀ s, s < C.S → C.slot s + 1 ≠ C.chunk k + 1 := fun s s1 => by
  have : C.slot s = 6 + C.T + 2 * s := rfl
  omega
 have n2 : ∀ j, C.chunk j ≠ C.chunk k + 1 := fun j => by
  have : C.chunk j = 6 + C.T + 2 * C.S + 3 * j := rfl
  omega
 refine ⟨h.fre.congr (upd_ne _ _ (by omega)) fun s s0 s1 => upd_ne _ _ (n1 s s1), h.alo.congr (fun c c0 c3 => upd_ne _ _ (by omega)) fun j j0 j1 => upd_ne _ _ (n2 j), fun j j0 j1 => ?_, fun j i j0 j1 i0 i1 => ?_⟩
 ·by_cases q : j = k
  ·subst q; rw [upd_same, upd_same]
  ·have n3 : C.chunk j + 1 ≠ C.chunk k + 1 := by
    have : C.chunk j = 6 + C.T + 2 * C.S + 3 * j := rfl
    omega
   rw [upd_ne _ _ q, upd_ne _ _ n3]
   exact h.live j j0 j1
 ·have hb := base_ge hC j0 j1 (i := i) (by have := h.u0 j0 j1; omega)
  rw [upd_ne _ _ (by omega)]; exact h.nil j i j0 j1 i0 i1
theorem Aw.took (hC : C.ok) {s : Int} (h : Aw C (s :: F) o u lv nx w) : Aw C F o u lv nx (tookW C w) := by
 have hT := hC.T
 have hS := hC.S
 have hCC := hC.C
 have ne : ∀ a, a ≠ 1 → tookW C w a = w a := fun a ha => by unfold tookW; exact upd_ne _ _ ha
 refine ⟨(h.fre.took hC).1, h.alo.congr (fun c c0 c3 => ne _ (by omega)) fun j j0 j1 => ne _ (by unfold Cf.chunk; omega), fun j j0 j1 => ?_, fun j i j0 j1 i0 i1 => ?_⟩
 ·rw [ne _ (by unfold Cf.chunk; omega)]; exact h.live j j0 j1
 ·have hb := base_ge hC j0 j1 (i := i) (by have := h.u0 j0 j1; omega)
  rw [ne _ (by omega)]; exact h.nil j i j0 j1 i0 i1
theorem Aw.gave (hC : C.ok) {s : Int} (h : Aw C F o u lv nx w) (hs : 0 ≤ s ∧ s < C.S) (hn : s ∉ F) : Aw C (s :: F) o u lv nx (gaveW C s w) := by
 have hT := hC.T
 have hS := hC.S
 have hCC := hC.C
 have es : C.slot s = 6 + C.T + 2 * s := rfl
 have ne : ∀ a, a ≠ 1 → a ≠ C.slot s + 1 → gaveW C s w a = w a := fun a ha hb => by unfold gaveW; rw [upd_ne _ _ ha, upd_ne _ _ hb]
 refine ⟨h.fre.gave hC hs hn, h.alo.congr (fun c c0 c3 => ne _ (by omega) (by omega)) fun j j0 j1 => ne _ (by unfold Cf.chunk; omega) (by unfold Cf.chunk; omega), fun j j0 j1 => ?_, fun j i j0 j1 i0 i1 => ?_⟩
 ·rw [ne _ (by unfold Cf.chunk; omega) (by unfold Cf.chunk; omega)]; exact h.live j j0 j1
 ·have hb := base_ge hC j0 j1 (i := i) (by have := h.u0 j0 j1; omega)
  rw [ne _ (by omega) (by omega)]; exact h.nil j i j0 j1 i0 i1
structure Rs (C : Cf) (F : List Int) (u lv : Int → Int) (w : Int → Int) : Prop where
 fre : Fre C w F
 live : ∀ j, 0 ≤ j → j < C.C → w (C.chunk j + 1) = lv j
 nil : ∀ j i, 0 ≤ j → j < C.C → u j ≤ i → i < C.W → w (C.base j + i) = 0
theorem Aw.rs (h : Aw C F o u lv nx w) : Rs C F u lv w := ⟨h.fre, h.live, h.nil⟩
theorem Rs.aw {u' : Int → Int} (h : Rs C F u lv w) (ha : Alo C o u' nx w) (hu : ∀ j, u j ≤ u' j) : Aw C F o u' lv nx w :=
 ⟨h.fre, ha, h.live, fun j i j0 j1 i0 i1 => h.nil j i j0 j1 (by have := hu j; omega) i1⟩
theorem Rs.go (hC : C.ok) (h : Rs C F u lv A.w) (hu : ∀ j, 0 ≤ j → j < C.C → 0 ≤ u j) {p : Pl} {r : Bool × Pl × Ar} {a : Int} (hf : p.fit C) (g : Go1 C A p r a) : Rs C F u lv r.2.2.w := by
 have hT := hC.T
 have hS := hC.S
 have hCC := hC.C
 have hc := hf.cls
 have hj := hf.at'
 have e : C.chunk p.at' = 6 + C.T + 2 * C.S + 3 * p.at' := rfl
 have ne : ∀ i, i ≠ 2 + p.cls → i ≠ C.chunk p.at' → r.2.2.w i = A.w i := fun i h1 h2 => g.w i (by rcases g.wh with q | q <;> rw [q] <;> assumption)
 refine ⟨h.fre.congr (ne _ (by omega) (by omega)) fun s s0 s1 => ne _ ?_ ?_, fun j j0 j1 => ?_, fun j i j0 j1 i0 i1 => ?_⟩
 ·have : C.slot s = 6 + C.T + 2 * s := rfl
  omega
 ·have : C.slot s = 6 + C.T + 2 * s := rfl
  omega
 ·have q : C.chunk j = 6 + C.T + 2 * C.S + 3 * j := rfl
  rw [ne _ (by omega) (by omega)]; exact h.live j j0 j1
 ·have hb := base_ge hC j0 j1 (i := i) (by have := hu j j0 j1; omega)
  rw [ne _ (by omega) (by omega)]; exact h.nil j i j0 j1 i0 i1
end
end Go.Fl
namespace Go.Fl
open Go
set_option linter.unusedVariables false
set_option linter.unusedSimpArgs false
variable {N : Nm} {A B : Ar} {σ : Mem} {K : Value → Mem → Prop} {C : Cf} {who : Int}
structure Bg where
 F : List Int
 o : Int → Int
 u : Int → Int
 lv : Int → Int
 nx : Int
def PhT (C : Cf) (b : Bg) (size : Int) (own : Bool) (k : Int) (m : Am) (w : Int → Int) : Prop :=
 Aw C b.F b.o b.u b.lv b.nx w ∧ m.a.size = size ∧ m.a.own = own ∧ m.a.pc = 0 ∧
  (m.a.tk = Tk.new ∧ k = 0 ∨ (∃ s F, b.F = s :: F ∧ m.a.tk = ⟨1, w 1, 0, s, false⟩) ∧ k = 1 ∨ (∃ s F, b.F = s :: F ∧ m.a.tk = ⟨2, w 1, topS (w (C.slot s + 1)), s, false⟩) ∧ k = 2)
theorem PhT.new {b : Bg} {w : Int → Int} (h : Aw C b.F b.o b.u b.lv b.nx w) {size : Int} {own : Bool} : PhT C b size own 0 (Am.new size own) w :=
 ⟨h, rfl, rfl, rfl, .inl ⟨rfl, rfl⟩⟩
theorem PhT.fit (hC : C.ok) {b : Bg} {size k bb : Int} {own : Bool} {m : Am} (h : PhT C b size own k m A.w) (ok : A.ok bb) : m.fit C A := by
 obtain ⟨hA, h1, h2, h3, h⟩ := h
 refine ⟨by omega, fun _ => ?_, fun e => absurd h3 e, fun e => absurd h3 e, fun e => by omega, fun e _ => by omega, fun e => by omega⟩
 have w1 := ok.w 1
 rcases h with ⟨e, _⟩ | ⟨⟨s, F, hF, e⟩, _⟩ | ⟨⟨s, F, hF, e⟩, _⟩
 ·rw [e]; exact ⟨⟨Int.le_refl 0, (by decide : (0 : Int) < 18446744073709551616)⟩, fun q => (by cases q), (by decide : (0 : Int) ≤ 0 + 1)⟩
 ·have hs := hA.fre.c.mem s (by rw [hF]; simp)
  rw [e]; exact ⟨w1, fun _ => hs, by show (0 : Int) ≤ 0 + 1; decide⟩
 ·have := topS_ge (A.w (C.slot s + 1)) (ok.w _).1
  rw [e]; exact ⟨w1, fun q => (by cases q), by show 0 ≤ topS (A.w (C.slot s + 1)) + 1; omega⟩
theorem PhT.step (hC : C.ok) {b : Bg} {size k bb : Int} {own : Bool} {m : Am} (h : PhT C b size own k m A.w) (ok : A.ok bb) (hb : bb < 4611686018427387904) (hcl : 0 ≤ classOf size) :
    ((m.step C who A).1 = false ∧ PhT C b size own (k + 1) (m.step C who A).2.1 (m.step C who A).2.2.w) ∨
    ((m.step C who A).1 = true ∧ b.F = [] ∧ (m.step C who A).2.1.a.oE = 7 ∧ (m.step C who A).2.1.a.oH = 0 ∧ (m.step C who A).2.1.a.oS = (m.step C who A).2.2.s ∧ Aw C b.F b.o b.u b.lv b.nx (m.step C who A).2.2.w) ∨
    ((m.step C who A).1 = false ∧ ∃ s F, b.F = s :: F ∧ (m.step C who A).2.1.a.pc = 1 ∧ (m.step C who A).2.1.a.at' = s ∧ (m.step C who A).2.1.a.size = size ∧ (m.step C who A).2.1.a.own = own ∧ Aw C F b.o b.u b.lv b.nx (m.step C who A).2.2.w) := by
  obtain ⟨hA, h1, h2, h3, h⟩ := h
  have hcl' : ¬ classOf m.a.size < 0 := by rw [h1]; omega
  have e : m.step C who A = (let r := m.a.tk.step C who A
    if r.1 = false then (false, { m with a := { m.a with tk := r.2.1 } }, r.2.2)
    else if r.2.1.ok = true then (false, { m with a := { m.a with tk := r.2.1, at' := r.2.1.slot, pc := 1 } }, r.2.2)
    else (true, { m with a := { m.a with tk := r.2.1, at' := 0, pc := 1, oE := 7, oH := 0, oV := 0, oS := r.2.2.s } }, r.2.2)) := by
    unfold Am.step; rw [if_pos h3, if_neg hcl']
  rw [e]
  rcases h with ⟨q, hk⟩ | ⟨⟨s, F, hF, q⟩, hk⟩ | ⟨⟨s, F, hF, q⟩, hk⟩
  · rw [q, Tk.new, Tk.step0]
    cases hF : b.F with
    | nil =>
      have ht : topS (A.w 1) < 0 := by have : topS (A.w 1) = -1 := by have := hA.fre.c; rw [hF] at this; exact this
                                       omega
      simp only [ht, decide_true, Bool.true_eq_false, Bool.false_eq_true, if_false]
      rw [← hF]
      exact .inr (.inl ⟨trivial, by first | trivial | exact hF, trivial, trivial, trivial, hA⟩)
    | cons s F =>
      have hc := hA.fre.c
      rw [hF] at hc
      have ht : ¬ topS (A.w 1) < 0 := by have := hc.1; have := hc.2.1; omega
      simp only [ht, decide_false, if_true]
      exact .inl ⟨trivial, hA, h1, h2, h3, .inr (.inl ⟨⟨s, F, hF, by rw [hc.1]; rfl⟩, by omega⟩)⟩
  · rw [q, Tk.step1]
    simp only [if_true]
    exact .inl ⟨trivial, hA, h1, h2, h3, .inr (.inr ⟨⟨s, F, hF, rfl⟩, by omega⟩)⟩
  · have hc := hA.fre.c
    rw [hF] at hc
    rw [q, Tk.step2]
    simp only [decide_true, Bool.true_eq_false, if_false, if_true]
    refine .inr (.inr ⟨trivial, s, F, hF, trivial, rfl, h1, h2, ?_⟩)
    have a1 := aft_cas (who := who) (A := A) (a := 1) (o := A.w 1) (v := putTop (topS (A.w (C.slot s + 1))) (topN (A.w 1) + 1)) ok (by omega)
    rw [if_pos rfl] at a1
    have hA' := hA
    rw [hF] at hA'
    have := hA'.took hC
    unfold tookW at this
    rw [hc.1] at this
    rw [a1.w]; exact this
structure Has (C : Cf) (size : Int) (own : Bool) (s : Int) (m : Am) : Prop where
 size : m.a.size = size
 own : m.a.own = own
 at' : m.a.at' = s
def PhP (C : Cf) (b : Bg) (F : List Int) (size : Int) (own : Bool) (s ge k : Int) (m : Am) (w : Int → Int) : Prop :=
 Has C size own s m ∧ m.a.gen = ge ∧ m.a.pc = 2 ∧ m.t.fit C ∧ Ph C b.o b.u b.nx (classOf size) k m.t w ∧ Rs C F b.u b.lv w
theorem PhP.step (hC : C.ok) {b : Bg} {F : List Int} {size s ge k bb : Int} {own : Bool} {m : Am} (h : PhP C b F size own s ge k m A.w) (hP : Pa C A bb) (hb : bb < 4611686018427387904) (hcl : 0 ≤ classOf size) (hcl3 : classOf size ≤ 3) (hu : ∀ j, 0 ≤ j → j < C.C → 0 ≤ b.u j) :
    ((m.step C who A).1 = false ∧ PhP C b F size own s ge (k + 1) (m.step C who A).2.1 (m.step C who A).2.2.w) ∨
    ((m.step C who A).1 = false ∧ Rs C F b.u b.lv (m.step C who A).2.2.w ∧ Has C size own s (m.step C who A).2.1 ∧ (m.step C who A).2.1.a.gen = ge ∧ Dn C b.o b.u b.nx (classOf size) (m.step C who A).2.1.t (m.step C who A).2.2.w ∧
      ((m.step C who A).2.1.t.ok = true ∧ (m.step C who A).2.1.a.pc = 3 ∧ (m.step C who A).2.1.a.sa = (m.step C who A).2.1.t.sa ∧ (m.step C who A).2.1.a.sc = (m.step C who A).2.1.t.sc ∨
       (m.step C who A).2.1.t.ok = false ∧ (m.step C who A).2.1.a.pc = 7 ∧ (m.step C who A).2.1.a.oE = 6 ∧ (m.step C who A).2.1.a.oH = 0 ∧ (m.step C who A).2.1.a.oS = (m.step C who A).2.2.s ∧ (m.step C who A).2.1.g = ⟨0, s, 0⟩)) := by
  obtain ⟨hs, hg, h2, hf, hp, hr⟩ := h
  have e : m.step C who A = (let r := m.t.step C who A
    if r.1 = false then (false, { m with t := r.2.1 }, r.2.2)
    else if r.2.1.ok = true then (false, { m with a := { m.a with sa := r.2.1.sa, sc := r.2.1.sc, pc := 3 }, t := r.2.1 }, r.2.2)
    else (false, { m with a := { m.a with sa := 0, sc := 0, pc := 7, oE := 6, oH := 0, oV := 0, oS := r.2.2.s }, t := r.2.1, g := ⟨0, m.a.at', 0⟩ }, r.2.2)) := by
    unfold Am.step; rw [if_neg (by omega), if_neg (by omega), if_pos h2]
  obtain ⟨q1, q2, a, q3⟩ := Pl.go (who := who) hC hb hP hf
  have hr' := hr.go hC hu hf q3
  have hst := hp.step (who := who) hC hcl hcl3 hP.ok hb hf
  rw [e]
  generalize m.t.step C who A = r at *
  obtain ⟨d, t', A'⟩ := r
  dsimp only at *
  cases d with
  | false =>
    simp only [Bool.false_eq_true, if_false, if_true] at hst ⊢
    exact .inl ⟨trivial, ⟨hs.size, hs.own, hs.at'⟩, hg, h2, q2 rfl, hst, hr'⟩
  | true =>
    simp only [if_true, Bool.true_eq_false, if_false] at hst ⊢
    cases o : t'.ok with
    | true =>
      simp only [if_true]
      exact .inr ⟨trivial, hr', ⟨hs.size, hs.own, hs.at'⟩, hg, hst, .inl (by simp [o])⟩
    | false =>
      simp only [Bool.false_eq_true, if_false]
      exact .inr ⟨trivial, hr', ⟨hs.size, hs.own, hs.at'⟩, hg, hst, .inr (by simp [o, hs.at'])⟩
theorem Ph.new {o u w : Int → Int} {nx c : Int} (h : Alo C o u nx w) : Ph C o u nx c 0 (Pl.new c) w := by
 have hbd := h.bd
 refine ⟨rfl, rfl, ?_⟩
 by_cases gd : good C o u c
 ·exact .inl ⟨.inl ⟨gd, h⟩, .inl ⟨rfl, by omega⟩⟩
 ·exact .inr ⟨gd, .inl ⟨h, .inl ⟨rfl, by omega⟩⟩⟩
theorem see_step (hC : C.ok) {b : Bg} {F : List Int} {size s : Int} {own : Bool} {m : Am} (hA : Aw C F b.o b.u b.lv b.nx A.w) (hs : Has C size own s m) (h1 : m.a.pc = 1) (hcl : 0 ≤ classOf size) (hcl3 : classOf size ≤ 3) :
  (m.step C who A).1 = false ∧ PhP C b F size own s (slG (A.w (C.slot s))) 0 (m.step C who A).2.1 (m.step C who A).2.2.w := by
 have e : m.step C who A = (false, { m with a := { m.a with gen := slG (A.w (C.slot m.a.at')), pc := 2 }, t := Pl.new (classOf m.a.size) }, (A.by who).load (C.slot m.a.at')) := by
  unfold Am.step; rw [if_neg (by omega), if_pos h1]
 rw [e]
 refine ⟨rfl, ⟨hs.size, hs.own, hs.at'⟩, by show slG (A.w (C.slot m.a.at')) = _; rw [hs.at'], rfl, ?_, ?_, hA.rs⟩
 ·show (Pl.new (classOf m.a.size)).fit C
  rw [hs.size]; exact Pl.new_fit hC hcl hcl3
 ·show Ph C b.o b.u b.nx (classOf size) 0 (Pl.new (classOf m.a.size)) A.w
  rw [hs.size]; exact Ph.new hA.alo
structure Spt (C : Cf) (size : Int) (own : Bool) (s ge j i : Int) (u : Int → Int) (m : Am) : Prop where
 has : Has C size own s m
 gen : m.a.gen = ge
 sc : m.a.sc = j
 sa : m.a.sa = C.base j + i
 j0 : 0 ≤ j ∧ j < C.C
 i0 : 0 ≤ i ∧ i + roomOf (classOf size) ≤ u j ∧ u j ≤ C.W
theorem count_step (hC : C.ok) {F : List Int} {o u lv : Int → Int} {nx size s ge j i bb : Int} {own : Bool} {m : Am} (hA : Aw C F o u lv nx A.w) (hs : Spt C size own s ge j i u m) (h3 : m.a.pc = 3) (ok : A.ok bb) (hb : bb < 4611686018427387904) (hl : 0 ≤ lv j + roomOf (classOf size) ∧ lv j + roomOf (classOf size) < 18446744073709551616) :
  (m.step C who A).1 = false ∧ (m.step C who A).2.1.a.pc = 4 ∧ Spt C size own s ge j i u (m.step C who A).2.1 ∧ Aw C F o u (upd lv j (lv j + roomOf (classOf size))) nx (m.step C who A).2.2.w := by
 have e : m.step C who A = (false, { m with a := { m.a with pc := 4 } }, (A.by who).add (C.chunk m.a.sc + 1) (roomOf (classOf m.a.size))) := by
  unfold Am.step; rw [if_neg (by omega), if_neg (by omega), if_neg (by omega), if_pos h3]
 rw [e]
 refine ⟨rfl, rfl, ⟨⟨hs.has.size, hs.has.own, hs.has.at'⟩, hs.gen, hs.sc, hs.sa, hs.j0, hs.i0⟩, ?_⟩
 have hw : ((A.by who).add (C.chunk m.a.sc + 1) (roomOf (classOf m.a.size))).w = upd A.w (C.chunk j + 1) (lv j + roomOf (classOf size)) := by
  show upd A.w (C.chunk m.a.sc + 1) (IntKind.u64.wrap (A.w (C.chunk m.a.sc + 1) + roomOf (classOf m.a.size))) = _
  rw [hs.sc, hs.has.size, hA.live j hs.j0.1 hs.j0.2, IntWalk.u64_in _ (by omega)]
 show Aw C F o u _ nx ((A.by who).add (C.chunk m.a.sc + 1) (roomOf (classOf m.a.size))).w
 rw [hw]
 exact hA.lives hC hs.j0.1 hs.j0.2
theorem head_step (hC : C.ok) {F : List Int} {o u lv : Int → Int} {nx size s ge j i : Int} {own : Bool} {m : Am} (hA : Aw C F o u lv nx A.w) (hs : Spt C size own s ge j i u m) (h4 : m.a.pc = 4) (hcl : 0 ≤ classOf size) (hcl3 : classOf size ≤ 3) :
  (m.step C who A).1 = false ∧ (m.step C who A).2.1.a.pc = 5 ∧ Spt C size own s ge j i u (m.step C who A).2.1 ∧ Aw C F o u lv nx (m.step C who A).2.2.w ∧ (m.step C who A).2.2.w = upd A.w (C.base j + i) (putHead 1 size s ge own) := by
 have e : m.step C who A = (false, { m with a := { m.a with pc := 5 } }, (A.by who).store m.a.sa (putHead 1 m.a.size m.a.at' m.a.gen m.a.own)) := by
  unfold Am.step; rw [if_neg (by omega), if_neg (by omega), if_neg (by omega), if_neg (by omega), if_pos h4]
 have hr := room_bd hcl hcl3
 have hi := hs.i0
 have hw : ((A.by who).store m.a.sa (putHead 1 m.a.size m.a.at' m.a.gen m.a.own)).w = upd A.w (C.base j + i) (putHead 1 size s ge own) := by
  rw [store_w, hs.sa, hs.has.size, hs.has.at', hs.gen, hs.has.own]; rfl
 rw [e]
 refine ⟨rfl, rfl, ⟨⟨hs.has.size, hs.has.own, hs.has.at'⟩, hs.gen, hs.sc, hs.sa, hs.j0, hs.i0⟩, ?_, hw⟩
 show Aw C F o u lv nx ((A.by who).store m.a.sa (putHead 1 m.a.size m.a.at' m.a.gen m.a.own)).w
 rw [hw]
 exact hA.word hC hs.j0.1 hs.j0.2 hi.1 (by omega) (by omega)
theorem show_step (hC : C.ok) {F : List Int} {o u lv : Int → Int} {nx size s ge j i bb : Int} {own : Bool} {m : Am} (hA : Aw C F o u lv nx A.w) (hs : Spt C size own s ge j i u m) (h5 : m.a.pc = 5) (s0 : 0 ≤ s ∧ s < C.S) (ok : A.ok bb) (hb : bb < 4611686018427387904) :
  (m.step C who A).1 = false ∧ (m.step C who A).2.1.a.pc = 6 ∧ Spt C size own s ge j i u (m.step C who A).2.1 ∧ Aw C F o u lv nx (m.step C who A).2.2.w ∧ (m.step C who A).2.2.w = upd A.w (C.slot s) (putSlot 1 (C.base j + i) ge 0) ∧
   (m.step C who A).2.1.a.oE = 0 ∧ (m.step C who A).2.1.a.oH = putHandle s ge ∧ (m.step C who A).2.1.a.oS = A.s + 1 := by
 have e : m.step C who A = (false, { m with a := { m.a with pc := 6, oE := 0, oH := putHandle m.a.at' m.a.gen, oV := 0, oS := ((A.by who).store (C.slot m.a.at') (putSlot 1 m.a.sa m.a.gen 0)).s } }, (A.by who).store (C.slot m.a.at') (putSlot 1 m.a.sa m.a.gen 0)) := by
  unfold Am.step; rw [if_neg (by omega), if_neg (by omega), if_neg (by omega), if_neg (by omega), if_neg (by omega), if_pos h5]
 have a1 := aft_store (who := who) (A := A) (a := C.slot m.a.at') (v := putSlot 1 m.a.sa m.a.gen 0) ok (by omega)
 have hw : ((A.by who).store (C.slot m.a.at') (putSlot 1 m.a.sa m.a.gen 0)).w = upd A.w (C.slot s) (putSlot 1 (C.base j + i) ge 0) := by
  rw [a1.w, hs.sa, hs.has.at', hs.gen]
 rw [e]
 refine ⟨rfl, rfl, ⟨⟨hs.has.size, hs.has.own, hs.has.at'⟩, hs.gen, hs.sc, hs.sa, hs.j0, hs.i0⟩, ?_, hw, rfl, by show putHandle m.a.at' m.a.gen = _; rw [hs.has.at', hs.gen], a1.s⟩
 show Aw C F o u lv nx ((A.by who).store (C.slot m.a.at') (putSlot 1 m.a.sa m.a.gen 0)).w
 rw [hw]
 exact hA.slotw hC s0.1 s0.2
theorem ready_step (hC : C.ok) {F : List Int} {o u lv : Int → Int} {nx size s ge j i : Int} {own : Bool} {m : Am} (hA : Aw C F o u lv nx A.w) (hs : Spt C size own s ge j i u m) (h6 : m.a.pc = 6) (hcl : 0 ≤ classOf size) (hcl3 : classOf size ≤ 3) :
  (m.step C who A).1 = true ∧ (m.step C who A).2.1 = m ∧ Aw C F o u lv nx (m.step C who A).2.2.w ∧ (m.step C who A).2.2.w = upd A.w (C.base j + i) (putHead 2 size s ge own) := by
 have e : m.step C who A = (true, m, (A.by who).store m.a.sa (putHead 2 m.a.size m.a.at' m.a.gen m.a.own)) := by
  unfold Am.step; rw [if_neg (by omega), if_neg (by omega), if_neg (by omega), if_neg (by omega), if_neg (by omega), if_neg (by omega), if_pos h6]
 have hr := room_bd hcl hcl3
 have hi := hs.i0
 have hw : ((A.by who).store m.a.sa (putHead 2 m.a.size m.a.at' m.a.gen m.a.own)).w = upd A.w (C.base j + i) (putHead 2 size s ge own) := by
  rw [store_w, hs.sa, hs.has.size, hs.has.at', hs.gen, hs.has.own]; rfl
 rw [e]
 refine ⟨rfl, rfl, ?_, hw⟩
 show Aw C F o u lv nx ((A.by who).store m.a.sa (putHead 2 m.a.size m.a.at' m.a.gen m.a.own)).w
 rw [hw]
 exact hA.word hC hs.j0.1 hs.j0.2 hi.1 (by omega) (by omega)
def PhG (C : Cf) (F : List Int) (o u lv : Int → Int) (nx s : Int) (k : Int) (m : Am) (w : Int → Int) : Prop :=
 m.a.pc = 7 ∧ (0 ≤ s ∧ s < C.S) ∧ s ∉ F ∧ (m.g = ⟨0, s, 0⟩ ∧ k = 0 ∧ Aw C F o u lv nx w ∨ m.g = ⟨1, s, w 1⟩ ∧ k = 1 ∧ Aw C F o u lv nx w ∨
  m.g = ⟨2, s, w 1⟩ ∧ k = 2 ∧ ∃ w0, Aw C F o u lv nx w0 ∧ w0 1 = w 1 ∧ w = upd w0 (C.slot s + 1) (putTop (topS (w0 1)) 0))
theorem PhG.step (hC : C.ok) {F : List Int} {o u lv : Int → Int} {nx s k bb : Int} {m : Am} (h : PhG C F o u lv nx s k m A.w) (ok : A.ok bb) (hb : bb < 4611686018427387904) :
  (m.step C who A).2.1.a = m.a ∧ (((m.step C who A).1 = false ∧ PhG C F o u lv nx s (k + 1) (m.step C who A).2.1 (m.step C who A).2.2.w) ∨ ((m.step C who A).1 = true ∧ Aw C (s :: F) o u lv nx (m.step C who A).2.2.w)) := by
 obtain ⟨h7, s0, hn, h⟩ := h
 have hT := hC.T
 have hS := hC.S
 have e : m.step C who A = ((m.g.step C who A).1, { m with g := (m.g.step C who A).2.1 }, (m.g.step C who A).2.2) := by
  unfold Am.step; rw [if_neg (by omega), if_neg (by omega), if_neg (by omega), if_neg (by omega), if_neg (by omega), if_neg (by omega), if_neg (by omega)]
 rw [e]
 refine ⟨rfl, ?_⟩
 rcases h with ⟨q, hk, hA⟩ | ⟨q, hk, hA⟩ | ⟨q, hk, w0, hA, e1, e2⟩
 ·rw [q, Gv.step0]
  exact .inl ⟨rfl, h7, s0, hn, .inr (.inl ⟨rfl, by omega, hA⟩)⟩
 ·rw [q, Gv.step1]
  have a1 := aft_store (who := who) (A := A) (a := C.slot s + 1) (v := putTop (topS (A.w 1)) 0) ok (by omega)
  have n1 : upd A.w (C.slot s + 1) (putTop (topS (A.w 1)) 0) 1 = A.w 1 := upd_ne _ _ (by unfold Cf.slot; omega)
  refine .inl ⟨rfl, h7, s0, hn, .inr (.inr ⟨?_, by omega, A.w, hA, ?_, a1.w⟩)⟩
  ·show Gv.mk 2 s (A.w 1) = ⟨2, s, _⟩; rw [a1.w, n1]
  ·rw [a1.w, n1]
 ·rw [q, Gv.step2]
  have a1 := aft_cas (who := who) (A := A) (a := 1) (o := A.w 1) (v := putTop s (topN (A.w 1) + 1)) ok (by omega)
  rw [if_pos rfl] at a1
  refine .inr ⟨decide_eq_true rfl, ?_⟩
  show Aw C (s :: F) o u lv nx ((A.by who).cas 1 (A.w 1) (putTop s (topN (A.w 1) + 1))).w
  have := hA.gave hC s0 hn
  unfold gaveW at this
  rw [a1.w, e2, upd_ne _ _ (by unfold Cf.slot; omega)]
  exact this
end Go.Fl
namespace Go.Fl
open Go
set_option linter.unusedVariables false
set_option linter.unusedSimpArgs false
variable {N : Nm} {A B : Ar} {σ : Mem} {K : Value → Mem → Prop} {C : Cf} {who : Int}
structure Tch (C : Cf) (A : Ar) (m : Am) (r : Bool × Am × Ar) (a : Int) : Prop where
 la : r.2.2.la = a
 s : r.2.2.s = A.s + 1
 n : r.2.2.n = A.n
 w : ∀ i, i ≠ a → r.2.2.w i = A.w i
 kind : (m.a.pc = 0 ∨ m.a.pc = 7) ∧ (a = 1 ∨ ∃ s, 0 ≤ s ∧ s < C.S ∧ a = C.slot s + 1) ∨ m.a.pc = 1 ∧ a = C.slot m.a.at' ∧ r.2.2.w = A.w ∨ m.a.pc = 2 ∧ (a = 2 + m.t.cls ∨ a = C.chunk m.t.at') ∨ m.a.pc = 3 ∧ a = C.chunk m.a.sc + 1 ∨
  (m.a.pc = 4 ∨ m.a.pc = 6) ∧ a = m.a.sa ∨ m.a.pc = 5 ∧ a = C.slot m.a.at'
theorem Am.go (hC : C.ok) {b : Int} (hb : b < 4611686018427387904) (hP : Pa C A b) {m : Am} (hf : m.fit C A) (hc : ¬ (m.a.pc = 0 ∧ classOf m.a.size < 0)) (hsa : m.a.pc = 4 ∨ m.a.pc = 6 → C.base 0 ≤ m.a.sa) :
  Pa C (m.step C who A).2.2 (b + 1) ∧ ∃ a, Tch C A m (m.step C who A) a := by
 obtain ⟨ok, n, op⟩ := hP
 have hT := hC.T
 have hS := hC.S
 have hCC := hC.C
 have hb0 : C.base 0 = 6 + C.T + 2 * C.S + 3 * C.C := by unfold Cf.base; omega
 have L : ∀ a, Pa C ((A.by who).load a) (b + 1) := fun a => ⟨(aft_load ok (by omega)).ok (by decide) ok ok.w, n, op⟩
 have W : ∀ a v, (∀ c, 0 ≤ c → c ≤ 3 → 2 + c ≠ a) → 0 ≤ v ∧ v < 18446744073709551616 → Pa C ((A.by who).store a v) (b + 1) := by
  intro a v ha hv
  have a1 := aft_store (who := who) (A := A) (a := a) (v := v) ok (by omega)
  refine ⟨a1.ok (by decide) ok fun i => upd_cases (P := fun x => 0 ≤ x ∧ x < 18446744073709551616) hv (ok.w i), n, fun c c0 c3 => ?_⟩
  rw [a1.w, upd_ne _ _ (ha c c0 c3)]; exact op c c0 c3
 have Z : ∀ a o v, (∀ c, 0 ≤ c → c ≤ 3 → 2 + c ≠ a) → 0 ≤ v ∧ v < 18446744073709551616 → Pa C ((A.by who).cas a o v) (b + 1) := by
  intro a o v ha hv
  have a1 := aft_cas (who := who) (A := A) (a := a) (o := o) (v := v) ok (by omega)
  refine ⟨a1.ok (by decide) ok fun i => ?_, by rw [a1.n]; exact n, fun c c0 c3 => ?_⟩
  ·split
   ·exact upd_cases (P := fun x => 0 ≤ x ∧ x < 18446744073709551616) hv (ok.w i)
   ·exact ok.w i
  ·rw [a1.w, aw (ha c c0 c3)]; exact op c c0 c3
 have sL := fun a => (aft_load (who := who) (a := a) ok (by omega)).s
 have sW := fun a v => (aft_store (who := who) (a := a) (v := v) ok (by omega)).s
 have aC := fun a o v => aft_cas (who := who) (A := A) (a := a) (o := o) (v := v) ok (by omega)
 have hpc := hf.pc
 by_cases c0 : m.a.pc = 0
 ·have hcl : ¬ classOf m.a.size < 0 := fun q => hc ⟨c0, q⟩
  obtain ⟨t1, t2, t3⟩ := hf.tk c0
  have e : (m.step C who A).2.2 = (m.a.tk.step C who A).2.2 := by
   unfold Am.step; rw [if_pos c0, if_neg hcl]; dsimp only
   split
   ·rfl
   ·split <;> rfl
  have key : ∃ a, (a = 1 ∨ ∃ s, 0 ≤ s ∧ s < C.S ∧ a = C.slot s + 1) ∧ Pa C (m.a.tk.step C who A).2.2 (b + 1) ∧ (m.a.tk.step C who A).2.2.la = a ∧ (m.a.tk.step C who A).2.2.s = A.s + 1 ∧ (m.a.tk.step C who A).2.2.n = A.n ∧ ∀ i, i ≠ a → (m.a.tk.step C who A).2.2.w i = A.w i := by
   unfold Tk.step
   by_cases q0 : m.a.tk.pc = 0
   ·rw [if_pos q0]; exact ⟨1, .inl rfl, L 1, rfl, sL 1, rfl, fun _ _ => rfl⟩
   ·rw [if_neg q0]
    by_cases q1 : m.a.tk.pc = 1
    ·rw [if_pos q1]; have := t2 q1; exact ⟨_, .inr ⟨_, this.1, this.2, rfl⟩, L _, rfl, sL _, rfl, fun _ _ => rfl⟩
    ·rw [if_neg q1]; exact ⟨1, .inl rfl, Z _ _ _ (fun c c0 c3 => by omega) (putTop_in _ _), cas_la, (aC _ _ _).s, (aC _ _ _).n, fun i hi => by rw [(aC _ _ _).w, aw hi]⟩
  obtain ⟨a, k1, k2, k3, k4, k5, k6⟩ := key
  exact ⟨by rw [e]; exact k2, a, ⟨by rw [e]; exact k3, by rw [e]; exact k4, by rw [e]; exact k5, by rw [e]; exact k6, .inl ⟨.inl c0, k1⟩⟩⟩
 have hat := hf.at' c0
 have hcl := hf.cl c0
 have hsl : C.slot m.a.at' = 6 + C.T + 2 * m.a.at' := rfl
 by_cases c1 : m.a.pc = 1
 ·have e : (m.step C who A).2.2 = (A.by who).load (C.slot m.a.at') := by unfold Am.step; rw [if_neg c0, if_pos c1]
  exact ⟨by rw [e]; exact L _, _, ⟨by rw [e]; exact load_la, by rw [e]; exact sL _, by rw [e]; rfl, fun i _ => by rw [e]; rfl, .inr (.inl ⟨c1, rfl, by rw [e]; rfl⟩)⟩⟩
 by_cases c2 : m.a.pc = 2
 ·obtain ⟨f1, f2⟩ := hf.pl c2
  obtain ⟨g1, _, a, g3⟩ := Pl.go (who := who) hC hb ⟨ok, n, op⟩ f1
  have e : (m.step C who A).2.2 = (m.t.step C who A).2.2 := by
   unfold Am.step; rw [if_neg c0, if_neg c1, if_pos c2]; dsimp only
   split
   ·rfl
   ·split <;> rfl
  exact ⟨by rw [e]; exact g1, a, ⟨by rw [e]; exact g3.la, by rw [e]; exact g3.s, by rw [e]; exact g3.n, by rw [e]; exact g3.w, .inr (.inr (.inl ⟨c2, g3.wh⟩))⟩⟩
 by_cases c3 : m.a.pc = 3
 ·have e : (m.step C who A).2.2 = (A.by who).add (C.chunk m.a.sc + 1) (roomOf (classOf m.a.size)) := by unfold Am.step; rw [if_neg c0, if_neg c1, if_neg c2, if_pos c3]
  have hsc := (hf.spot (by omega) (by omega)).1
  have hcj : C.chunk m.a.sc = 6 + C.T + 2 * C.S + 3 * m.a.sc := rfl
  have hwr : 0 ≤ IntKind.u64.wrap (A.w (C.chunk m.a.sc + 1) + roomOf (classOf m.a.size)) ∧ IntKind.u64.wrap (A.w (C.chunk m.a.sc + 1) + roomOf (classOf m.a.size)) < 18446744073709551616 := by
   show 0 ≤ (A.w (C.chunk m.a.sc + 1) + roomOf (classOf m.a.size)) % 18446744073709551616 ∧ (A.w (C.chunk m.a.sc + 1) + roomOf (classOf m.a.size)) % 18446744073709551616 < 18446744073709551616
   omega
  have := W (C.chunk m.a.sc + 1) (IntKind.u64.wrap (A.w (C.chunk m.a.sc + 1) + roomOf (classOf m.a.size))) (fun c c0 c3 => by omega) hwr
  exact ⟨by rw [e]; exact this, _, ⟨by rw [e]; rfl, by rw [e]; exact sW _ _, by rw [e]; rfl, fun i hi => by rw [e]; exact upd_ne _ _ hi, .inr (.inr (.inr (.inl ⟨c3, rfl⟩)))⟩⟩
 by_cases c4 : m.a.pc = 4
 ·have e : (m.step C who A).2.2 = (A.by who).store m.a.sa (putHead 1 m.a.size m.a.at' m.a.gen m.a.own) := by unfold Am.step; rw [if_neg c0, if_neg c1, if_neg c2, if_neg c3, if_pos c4]
  have hs := hsa (.inl c4)
  exact ⟨by rw [e]; exact W _ _ (fun c c0 c3 => by omega) (putHead_in _ _ _ _ _), _, ⟨by rw [e]; rfl, by rw [e]; exact sW _ _, by rw [e]; rfl, fun i hi => by rw [e]; exact upd_ne _ _ hi, .inr (.inr (.inr (.inr (.inl ⟨.inl c4, rfl⟩))))⟩⟩
 by_cases c5 : m.a.pc = 5
 ·have e : (m.step C who A).2.2 = (A.by who).store (C.slot m.a.at') (putSlot 1 m.a.sa m.a.gen 0) := by unfold Am.step; rw [if_neg c0, if_neg c1, if_neg c2, if_neg c3, if_neg c4, if_pos c5]
  exact ⟨by rw [e]; exact W _ _ (fun c c0 c3 => by omega) (putSlot_in _ _ _ _), _, ⟨by rw [e]; rfl, by rw [e]; exact sW _ _, by rw [e]; rfl, fun i hi => by rw [e]; exact upd_ne _ _ hi, .inr (.inr (.inr (.inr (.inr ⟨c5, rfl⟩))))⟩⟩
 by_cases c6 : m.a.pc = 6
 ·have e : (m.step C who A).2.2 = (A.by who).store m.a.sa (putHead 2 m.a.size m.a.at' m.a.gen m.a.own) := by unfold Am.step; rw [if_neg c0, if_neg c1, if_neg c2, if_neg c3, if_neg c4, if_neg c5, if_pos c6]
  have hs := hsa (.inr c6)
  exact ⟨by rw [e]; exact W _ _ (fun c c0 c3 => by omega) (putHead_in _ _ _ _ _), _, ⟨by rw [e]; rfl, by rw [e]; exact sW _ _, by rw [e]; rfl, fun i hi => by rw [e]; exact upd_ne _ _ hi, .inr (.inr (.inr (.inr (.inl ⟨.inr c6, rfl⟩))))⟩⟩
 have c7 : m.a.pc = 7 := by omega
 obtain ⟨g1, g2⟩ := hf.gv c7
 have e : (m.step C who A).2.2 = (m.g.step C who A).2.2 := by unfold Am.step; rw [if_neg c0, if_neg c1, if_neg c2, if_neg c3, if_neg c4, if_neg c5, if_neg c6]
 have key : ∃ a, (a = 1 ∨ ∃ s, 0 ≤ s ∧ s < C.S ∧ a = C.slot s + 1) ∧ Pa C (m.g.step C who A).2.2 (b + 1) ∧ (m.g.step C who A).2.2.la = a ∧ (m.g.step C who A).2.2.s = A.s + 1 ∧ (m.g.step C who A).2.2.n = A.n ∧ ∀ i, i ≠ a → (m.g.step C who A).2.2.w i = A.w i := by
  have hsg : C.slot m.g.slot = 6 + C.T + 2 * m.g.slot := rfl
  unfold Gv.step
  by_cases q0 : m.g.pc = 0
  ·rw [if_pos q0]; exact ⟨1, .inl rfl, L 1, rfl, sL 1, rfl, fun _ _ => rfl⟩
  ·rw [if_neg q0]
   by_cases q1 : m.g.pc = 1
   ·rw [if_pos q1]; exact ⟨_, .inr ⟨_, g2.1, g2.2, rfl⟩, W _ _ (fun c c0 c3 => by omega) (putTop_in _ _), rfl, sW _ _, rfl, fun i hi => upd_ne _ _ hi⟩
   ·rw [if_neg q1]; exact ⟨1, .inl rfl, Z _ _ _ (fun c c0 c3 => by omega) (putTop_in _ _), cas_la, (aC _ _ _).s, (aC _ _ _).n, fun i hi => by rw [(aC _ _ _).w, aw hi]⟩
 obtain ⟨a, k1, k2, k3, k4, k5, k6⟩ := key
 exact ⟨by rw [e]; exact k2, a, ⟨by rw [e]; exact k3, by rw [e]; exact k4, by rw [e]; exact k5, by rw [e]; exact k6, .inl ⟨.inr c7, k1⟩⟩⟩
end Go.Fl
namespace Go.Fl
open Go
set_option linter.unusedVariables false
set_option linter.unusedSimpArgs false
variable {N : Nm} {A B : Ar} {σ : Mem} {K : Value → Mem → Prop} {C : Cf} {who : Int}
def Got (C : Cf) (b : Bg) (F : List Int) (c j : Int) (b' : Bg) : Prop :=
 good C b.o b.u c ∧ j = b.o c ∧ b' = ⟨F, b.o, upd b.u j (b.u j + roomOf c), b.lv, b.nx⟩ ∨
 ¬ good C b.o b.u c ∧ b.nx < C.C ∧ j = b.nx ∧ b' = ⟨F, upd b.o c b.nx, upd b.u j (b.u j + roomOf c), b.lv, b.nx + 1⟩
def Bg.aw (b : Bg) (C : Cf) (w : Int → Int) : Prop := Aw C b.F b.o b.u b.lv b.nx w
def Bg.count (b : Bg) (j n : Int) : Bg := { b with lv := upd b.lv j (b.lv j + n) }
structure Fw (C : Cf) (b : Bg) (ch : Prop) (w0 w : Int → Int) : Prop where
 slot : ∀ t, 0 ≤ t → t < C.S → (ch → ∀ F, b.F ≠ t :: F) → w (C.slot t) = w0 (C.slot t)
 word : ∀ j i, 0 ≤ j → j < C.C → 0 ≤ i → i < b.u j → i < C.W → w (C.base j + i) = w0 (C.base j + i)
def PhS (C : Cf) (b : Bg) (size : Int) (own : Bool) (s ge : Int) (F : List Int) (s0 k : Int) (m : Am) (A : Ar) : Prop :=
  ∃ j b', Got C b F (classOf size) j b' ∧ Spt C size own s ge j (b.u j) b'.u m ∧ (∀ x, 1 ≤ x → x < roomOf (classOf size) → A.w (C.base j + (b.u j + x)) = 0) ∧
    (m.a.pc = 3 ∧ b'.aw C A.w ∧ A.w (C.base j + b.u j) = 0 ∧ k ≤ C.C + 16 ∨
     (b'.count j (roomOf (classOf size))).aw C A.w ∧ (m.a.pc = 4 ∧ A.w (C.base j + b.u j) = 0 ∧ k ≤ C.C + 17 ∨ A.w (C.base j + b.u j) = putHead 1 size s ge own ∧ (m.a.pc = 5 ∧ k ≤ C.C + 18 ∨
       m.a.pc = 6 ∧ A.w (C.slot s) = putSlot 1 (C.base j + b.u j) ge 0 ∧ m.a.oE = 0 ∧ m.a.oH = putHandle s ge ∧ (s0 < m.a.oS ∧ m.a.oS ≤ A.s) ∧ k ≤ C.C + 19)))
def PhM (C : Cf) (b : Bg) (size : Int) (own : Bool) (w0 : Int → Int) (s0 k : Int) (m : Am) (A : Ar) : Prop :=
 PhT C b size own k m A.w ∨ ∃ s F, b.F = s :: F ∧ (
  (m.a.pc = 1 ∧ Has C size own s m ∧ Aw C F b.o b.u b.lv b.nx A.w ∧ k ≤ 3) ∨
  (∃ kk, PhP C b F size own s (slG (w0 (C.slot s))) kk m A.w ∧ 0 ≤ kk ∧ k ≤ 4 + kk) ∨
  PhS C b size own s (slG (w0 (C.slot s))) F s0 k m A ∨
  (m.a.oE = 6 ∧ m.a.oH = 0 ∧ (s0 ≤ m.a.oS ∧ m.a.oS ≤ A.s) ∧ ¬ good C b.o b.u (classOf size) ∧ b.nx = C.C ∧ Has C size own s m ∧ ∃ kk, PhG C F b.o b.u b.lv b.nx s kk m A.w ∧ 0 ≤ kk ∧ k ≤ C.C + 16 + kk))
def Fin (C : Cf) (b : Bg) (size : Int) (own : Bool) (w0 : Int → Int) (s0 : Int) (m : Am) (A : Ar) : Prop :=
 m.a.oE = 7 ∧ m.a.oH = 0 ∧ b.F = [] ∧ b.aw C A.w ∨ ∃ s F, b.F = s :: F ∧ (
  m.a.oE = 6 ∧ m.a.oH = 0 ∧ ¬ good C b.o b.u (classOf size) ∧ b.nx = C.C ∧ b.aw C A.w ∨
  m.a.oE = 0 ∧ s0 < m.a.oS ∧ ∃ j b', Got C b F (classOf size) j b' ∧ (0 ≤ j ∧ j < C.C) ∧ (0 ≤ b.u j ∧ b.u j + roomOf (classOf size) ≤ b'.u j ∧ b'.u j ≤ C.W) ∧ m.a.oH = putHandle s (slG (w0 (C.slot s))) ∧ (b'.count j (roomOf (classOf size))).aw C A.w ∧
   A.w (C.slot s) = putSlot 1 (C.base j + b.u j) (slG (w0 (C.slot s))) 0 ∧ A.w (C.base j + b.u j) = putHead 2 size s (slG (w0 (C.slot s))) own ∧ ∀ x, 1 ≤ x → x < roomOf (classOf size) → A.w (C.base j + (b.u j + x)) = 0)
structure DnM (C : Cf) (b : Bg) (size : Int) (own : Bool) (w0 : Int → Int) (s0 : Int) (m : Am) (A : Ar) : Prop where
 n : (s0 ≤ m.a.oS ∧ m.a.oS ≤ A.s) ∧ A.s ≤ s0 + 100
 fw : Fw C b (m.a.oE = 0) w0 A.w
 r : Fin C b size own w0 s0 m A
structure Bg.lvok (b : Bg) (C : Cf) : Prop where
 lv : ∀ j, 0 ≤ j → j < C.C → 0 ≤ b.lv j ∧ b.lv j ≤ 1000000000
theorem Ph.kle {o u w : Int → Int} {nx c k : Int} {p : Pl} (h : Ph C o u nx c k p w) (hC : C.ok) : k ≤ C.C + 10 := by
 have hCC := hC.C
 rcases h.2.2 with ⟨h1, h2⟩ | ⟨hg, ⟨ha, h⟩ | h⟩
 ·dsimp only at h2; omega
 ·have := ha.bd; omega
 ·omega
theorem PhM.fit (hC : C.ok) {b : Bg} {size s0 k bb : Int} {own : Bool} {w0 : Int → Int} {m : Am} (h : PhM C b size own w0 s0 k m A) (hP : Pa C A bb) (hcl : 0 ≤ classOf size) (hF : ∀ s ∈ b.F, 0 ≤ s ∧ s < C.S) : m.fit C A := by
 have w1 := hP.ok.w 1
 have hT := hC.T
 have hS := hC.S
 rcases h with h | ⟨s, F, hb, h⟩
 ·exact h.fit hC hP.ok
 have hs := hF s (by rw [hb]; simp)
 rcases h with ⟨h1, h2, h3, _⟩ | ⟨kk, ⟨h1, h2, h3, h4, h5, h6⟩, _⟩ | ⟨j, b', hg, hp, hz, h⟩ | ⟨_, _, _, _, _, hh, kk, ⟨h1, h2, h3, h4⟩, _⟩
 ·exact ⟨by omega, fun e => by omega, fun _ => by rw [h2.size]; exact hcl, fun _ => by rw [h2.at']; exact hs, fun e => by omega, fun e _ => by omega, fun e => by omega⟩
 ·exact ⟨by omega, fun e => by omega, fun _ => by rw [h1.size]; exact hcl, fun _ => by rw [h1.at']; exact hs, fun _ => ⟨h4, hP.op _ h4.cls.1 h4.cls.2⟩, fun e _ => by omega, fun e => by omega⟩
 ·have hpc : 3 ≤ m.a.pc ∧ m.a.pc ≤ 6 := by omega
  have j0 := hp.j0
  have i0 := hp.i0
  have hr : 3 ≤ roomOf (classOf size) := by unfold roomOf; split <;> (try split) <;> (try split) <;> omega
  have hb := (base_of hC j0.1 j0.2 i0.1 (by omega)).2
  have hn := hP.n
  exact ⟨by omega, fun e => by omega, fun _ => by rw [hp.has.size]; exact hcl, fun _ => by rw [hp.has.at']; exact hs, fun e => by omega, fun _ _ => ⟨by rw [hp.sc]; exact j0, by rw [hp.sa]; omega⟩, fun e => by omega⟩
 ·refine ⟨by omega, fun e => by omega, fun _ => by rw [hh.size]; exact hcl, fun _ => by rw [hh.at']; exact hs, fun e => by omega, fun e _ => by omega, fun _ => ?_⟩
  rcases h4 with ⟨q, _⟩ | ⟨q, _⟩ | ⟨q, _⟩
  ·rw [q]; exact ⟨⟨Int.le_refl 0, (by decide : (0 : Int) < 18446744073709551616)⟩, h2⟩
  ·rw [q]; exact ⟨w1, h2⟩
  ·rw [q]; exact ⟨w1, h2⟩
theorem Got.has (hC : C.ok) {b b' : Bg} {F : List Int} {c j : Int} (h : Got C b F c j b') : b'.F = F ∧ b'.lv = b.lv := by
 rcases h with ⟨_, _, e⟩ | ⟨_, _, _, e⟩ <;> rw [e] <;> exact ⟨rfl, rfl⟩
theorem Got.bd (hC : C.ok) {b b' : Bg} {F : List Int} {c j : Int} {w : Int → Int} (h : Got C b F c j b') (hA : Alo C b.o b.u b.nx w) (c0 : 0 ≤ c) (c3 : c ≤ 3) :
  (0 ≤ j ∧ j < C.C) ∧ (0 ≤ b.u j ∧ b.u j + roomOf c ≤ b'.u j ∧ b'.u j ≤ C.W) ∧ (∀ i, b.u i ≤ b'.u i) ∧ b'.o c = j := by
 have hr := room_bd c0 c3
 have hbd := hA.bd
 have hW := hC.W
 rcases h with ⟨g, ej, e⟩ | ⟨g, hn, ej, e⟩
 ·have ho := hA.op c c0 c3
  have hold := hA.old _ g.1 ho.2.2
  have g2 := g.2
  subst ej
  rw [e]
  dsimp only
  refine ⟨⟨g.1, by omega⟩, by rw [upd_same]; omega, fun i => ?_, rfl⟩
  unfold upd; split
  ·rename_i q; rw [q]; omega
  ·omega
 ·have hnew := hA.new _ (Int.le_refl _) hn
  subst ej
  rw [e]
  dsimp only
  refine ⟨⟨hbd.1, hn⟩, by rw [upd_same]; omega, fun i => ?_, upd_same _ _ _⟩
  unfold upd; split
  ·rename_i q; rw [q]; omega
  ·omega
theorem Dn.got {b : Bg} {F : List Int} {c : Int} {p : Pl} {w : Int → Int} (h : Dn C b.o b.u b.nx c p w) (hr : Rs C F b.u b.lv w) (c0 : 0 ≤ c) (c3 : c ≤ 3) :
  p.ok = true ∧ (∃ j b', Got C b F c j b' ∧ p.sa = C.base j + b.u j ∧ p.sc = j ∧ b'.aw C w) ∨ p.ok = false ∧ ¬ good C b.o b.u c ∧ b.nx = C.C ∧ Aw C F b.o b.u b.lv b.nx w := by
 have hrm := room_bd c0 c3
 have hu : ∀ j i, b.u i ≤ upd b.u j (b.u j + roomOf c) i := by
  intro j i
  unfold upd; split
  ·rename_i q; rw [q]; omega
  ·omega
 rcases h with ⟨g, h1, h2, h3, h4⟩ | ⟨g, hn, h1, h2, h3, h4⟩ | ⟨g, hn, h1, h4⟩
 ·exact .inl ⟨h1, _, _, .inl ⟨g, rfl, rfl⟩, h2, h3, hr.aw h4 (hu _)⟩
 ·exact .inl ⟨h1, _, _, .inr ⟨g, hn, rfl, rfl⟩, h2, h3, hr.aw h4 (hu _)⟩
 ·exact .inr ⟨h1, g, hn, hr.aw h4 fun _ => Int.le_refl _⟩
theorem addr_ne (hC : C.ok) {j i : Int} (j0 : 0 ≤ j) (j1 : j < C.C) (i0 : 0 ≤ i) : (∀ s, s < C.S → C.base j + i ≠ C.slot s) ∧ (∀ k, k < C.C → C.base j + i ≠ C.chunk k + 1) := by
 have hb := base_ge hC j0 j1 i0
 have hT := hC.T
 have hCC := hC.C
 have hS := hC.S
 refine ⟨fun s hs => ?_, fun k hk => ?_⟩
 ·unfold Cf.slot; omega
 ·unfold Cf.chunk; omega
theorem PhS.step (hC : C.ok) {b : Bg} {F : List Int} {size s ge s0 k bb : Int} {own : Bool} {m : Am} (h : PhS C b size own s ge F s0 k m A) (ok : A.ok bb) (hb : bb < 4611686018427387904) (hcl : 0 ≤ classOf size) (hcl3 : classOf size ≤ 3) (hs : 0 ≤ s ∧ s < C.S) (hlv : b.lvok C) (hs0 : s0 ≤ A.s) :
  ((m.step C who A).1 = false ∧ PhS C b size own s ge F s0 (k + 1) (m.step C who A).2.1 (m.step C who A).2.2) ∨
  ((m.step C who A).1 = true ∧ (m.step C who A).2.1.a.oE = 0 ∧ s0 < (m.step C who A).2.1.a.oS ∧ (m.step C who A).2.1.a.oS ≤ A.s ∧ ∃ j b', Got C b F (classOf size) j b' ∧ Spt C size own s ge j (b.u j) b'.u m ∧ (m.step C who A).2.1.a.oH = putHandle s ge ∧ (b'.count j (roomOf (classOf size))).aw C (m.step C who A).2.2.w ∧
   (m.step C who A).2.2.w (C.slot s) = putSlot 1 (C.base j + b.u j) ge 0 ∧ (m.step C who A).2.2.w (C.base j + b.u j) = putHead 2 size s ge own ∧ ∀ x, 1 ≤ x → x < roomOf (classOf size) → (m.step C who A).2.2.w (C.base j + (b.u j + x)) = 0) := by
 have hr := room_bd hcl hcl3
 obtain ⟨j, b', hg, hp, hz, h⟩ := h
 have j0 := hp.j0
 have i0 := hp.i0
 have n0 := addr_ne hC j0.1 j0.2 i0.1
 have nx : ∀ x, 1 ≤ x → (∀ s, s < C.S → C.base j + (b.u j + x) ≠ C.slot s) ∧ (∀ k, k < C.C → C.base j + (b.u j + x) ≠ C.chunk k + 1) := fun x hx => addr_ne hC j0.1 j0.2 (by omega)
 obtain ⟨eF, eL⟩ := hg.has hC
 have hl := hlv.lv j j0.1 j0.2
 rcases h with ⟨h3, hA, hz0, hk⟩ | ⟨hA, ⟨h4, hz0, hk⟩ | ⟨hh, ⟨h5, hk⟩ | ⟨h6, hsl, e0, eH, hS, hk⟩⟩⟩
 ·obtain ⟨q1, q2, q3, q4⟩ := count_step (who := who) hC hA hp h3 ok hb (by rw [eL]; omega)
  have e : (m.step C who A).2.2 = (A.by who).add (C.chunk m.a.sc + 1) (roomOf (classOf m.a.size)) := by unfold Am.step; rw [if_neg (by omega), if_neg (by omega), if_neg (by omega), if_pos h3]
  refine .inl ⟨q1, j, b', hg, q3, fun x x1 x2 => ?_, .inr ⟨q4, .inl ⟨q2, by rw [e, add_eq, store_w, upd_ne _ _ (by rw [hp.sc]; exact n0.2 j j0.2)]; exact hz0, by omega⟩⟩⟩
  rw [e, add_eq, store_w, upd_ne _ _ (by rw [hp.sc]; exact (nx x x1).2 j j0.2)]
  exact hz x x1 x2
 ·obtain ⟨q1, q2, q3, q4, q5⟩ := head_step (who := who) hC hA hp h4 hcl hcl3
  refine .inl ⟨q1, j, b', hg, q3, fun x x1 x2 => ?_, .inr ⟨q4, .inr ⟨by rw [q5, upd_same], .inl ⟨q2, by omega⟩⟩⟩⟩
  rw [q5, upd_ne _ _ (by omega)]; exact hz x x1 x2
 ·obtain ⟨q1, q2, q3, q4, q5, q6, q7, q8⟩ := show_step (who := who) hC hA hp h5 hs ok hb
  have es := (aft_store (who := who) (A := A) (a := C.slot m.a.at') (v := putSlot 1 m.a.sa m.a.gen 0) ok (by omega)).s
  have e : (m.step C who A).2.2 = (A.by who).store (C.slot m.a.at') (putSlot 1 m.a.sa m.a.gen 0) := by unfold Am.step; rw [if_neg (by omega), if_neg (by omega), if_neg (by omega), if_neg (by omega), if_neg (by omega), if_pos h5]
  refine .inl ⟨q1, j, b', hg, q3, fun x x1 x2 => ?_, .inr ⟨q4, .inr ⟨?_, .inr ⟨q2, by rw [q5, upd_same], q6, q7, ?_, by omega⟩⟩⟩⟩
  ·rw [q5, upd_ne _ _ ((nx x x1).1 s hs.2)]; exact hz x x1 x2
  ·rw [q5, upd_ne _ _ (n0.1 s hs.2)]; exact hh
  ·rw [q8, e, es]; omega
 ·obtain ⟨q1, q2, q3, q4⟩ := ready_step (who := who) hC hA hp h6 hcl hcl3
  refine .inr ⟨q1, by rw [q2]; exact e0, by rw [q2]; exact hS.1, by rw [q2]; exact hS.2, j, b', hg, hp, by rw [q2]; exact eH, q3, ?_, by rw [q4, upd_same], fun x x1 x2 => ?_⟩
  ·rw [q4, upd_ne _ _ (fun q => n0.1 s hs.2 q.symm)]; exact hsl
  ·rw [q4, upd_ne _ _ (by omega)]; exact hz x x1 x2
theorem PhM.step (hC : C.ok) {b : Bg} {size s0 k bb : Int} {own : Bool} {w0 : Int → Int} {m : Am} (h : PhM C b size own w0 s0 k m A) (hP : Pa C A bb) (hb : bb < 4611686018427387904) (hcl : 0 ≤ classOf size) (hcl3 : classOf size ≤ 3) (hF : ∀ s ∈ b.F, 0 ≤ s ∧ s < C.S) (hnd : b.F.Nodup)
  (hlv : b.lvok C) (hu : ∀ j, 0 ≤ j → j < C.C → 0 ≤ b.u j) (hw : m.a.pc = 1 → ∀ t, 0 ≤ t → t < C.S → A.w (C.slot t) = w0 (C.slot t)) (hs0 : s0 ≤ A.s) (hs1 : (m.step C who A).2.2.s = A.s + 1) (hal : ∃ w, Alo C b.o b.u b.nx w) :
  ((m.step C who A).1 = false ∧ PhM C b size own w0 s0 (k + 1) (m.step C who A).2.1 (m.step C who A).2.2) ∨
  ((m.step C who A).1 = true ∧ (s0 ≤ (m.step C who A).2.1.a.oS ∧ (m.step C who A).2.1.a.oS ≤ (m.step C who A).2.2.s) ∧ Fin C b size own w0 s0 (m.step C who A).2.1 (m.step C who A).2.2) := by
 obtain ⟨wA, hal⟩ := hal
 rcases h with h | ⟨s, F, hbF, h⟩
 ·have hk : k ≤ 2 := by obtain ⟨_, _, _, _, h⟩ := h; omega
  rcases h.step (who := who) hC hP.ok hb hcl with ⟨q1, q2⟩ | ⟨q1, q2, q3, q4, q5, q6⟩ | ⟨q1, s, F, q2, q3, q4, q5, q6, q7⟩
  ·exact .inl ⟨q1, .inl q2⟩
  ·exact .inr ⟨q1, ⟨by rw [q5, hs1]; omega, by rw [q5]; exact Int.le_refl _⟩, .inl ⟨q3, q4, q2, q6⟩⟩
  ·exact .inl ⟨q1, .inr ⟨s, F, q2, .inl ⟨q3, ⟨q5, q6, q4⟩, q7, by omega⟩⟩⟩
 have hs := hF s (by rw [hbF]; simp)
 have hsF : s ∉ F := by rw [hbF] at hnd; exact (List.nodup_cons.1 hnd).1
 rcases h with ⟨h1, h2, h3, hk⟩ | ⟨kk, h, hk0, hk⟩ | h | ⟨e6, eH, eS, hng, hnx, hh, kk, h, hk0, hk⟩
 ·obtain ⟨q1, q2⟩ := see_step (who := who) (b := b) hC h3 h2 h1 hcl hcl3
  rw [hw h1 s hs.1 hs.2] at q2
  exact .inl ⟨q1, .inr ⟨s, F, hbF, .inr (.inl ⟨0, q2, Int.le_refl _, by omega⟩)⟩⟩
 ·have hkk : kk ≤ C.C + 10 := by obtain ⟨_, _, _, _, q, _⟩ := h; exact q.kle hC
  rcases h.step (who := who) hC hP hb hcl hcl3 hu with ⟨q1, q2⟩ | ⟨q1, q2, q3, q4, q5, q6⟩
  ·exact .inl ⟨q1, .inr ⟨s, F, hbF, .inr (.inl ⟨kk + 1, q2, by omega, by omega⟩)⟩⟩
  ·refine .inl ⟨q1, .inr ⟨s, F, hbF, .inr (.inr ?_)⟩⟩
   rcases q5.got q2 hcl hcl3 with ⟨o1, j, b', hg, g1, g2, g3⟩ | ⟨o1, o2, o3, o4⟩
   ·rcases q6 with ⟨r1, r2, r3, r4⟩ | ⟨r1, _⟩
    ·obtain ⟨d1, d2, d3, d4⟩ := hg.bd hC hal hcl hcl3
     refine .inl ⟨j, b', hg, ⟨q3, q4, r4.trans g2, r3.trans g1, d1, by omega⟩, fun x x1 x2 => q2.nil j _ d1.1 d1.2 (by omega) (by omega), .inl ⟨r2, g3, q2.nil j _ d1.1 d1.2 (Int.le_refl _) (by have := room_bd hcl hcl3; omega), by omega⟩⟩
    ·rw [o1] at r1; cases r1
   ·rcases q6 with ⟨r1, _⟩ | ⟨r1, r2, r3, r4, r5, r6⟩
    ·rw [o1] at r1; cases r1
    ·exact .inr ⟨r3, r4, ⟨by rw [r5, hs1]; omega, by rw [r5]; exact Int.le_refl _⟩, o2, o3, q3, 0, ⟨r2, hs, hsF, .inl ⟨r6, rfl, o4⟩⟩, Int.le_refl _, by omega⟩
 ·rcases h.step (who := who) hC hP.ok hb hcl hcl3 hs hlv hs0 with ⟨q1, q2⟩ | ⟨q1, q2, q3, q3b, j, b', q4, q5, q6, q7, q8, q9, q10⟩
  ·exact .inl ⟨q1, .inr ⟨s, F, hbF, .inr (.inr (.inl q2))⟩⟩
  ·obtain ⟨d1, d2, d3, d4⟩ := q4.bd hC hal hcl hcl3
   exact .inr ⟨q1, ⟨by omega, by omega⟩, .inr ⟨s, F, hbF, .inr ⟨q2, q3, j, b', q4, d1, d2, q6, q7, q8, q9, q10⟩⟩⟩
 ·obtain ⟨e1, q⟩ := h.step (who := who) hC hP.ok hb
  rcases q with ⟨q1, q2⟩ | ⟨q1, q2⟩
  ·refine .inl ⟨q1, .inr ⟨s, F, hbF, .inr (.inr (.inr ⟨by rw [e1]; exact e6, by rw [e1]; exact eH, ?_, hng, hnx, ?_, kk + 1, q2, by omega, by omega⟩))⟩⟩
   ·rw [e1, hs1]; omega
   ·exact ⟨by rw [e1]; exact hh.size, by rw [e1]; exact hh.own, by rw [e1]; exact hh.at'⟩
  ·refine .inr ⟨q1, ?_, .inr ⟨s, F, hbF, .inl ⟨by rw [e1]; exact e6, by rw [e1]; exact eH, hng, hnx, ?_⟩⟩⟩
   ·rw [e1, hs1]; omega
   ·unfold Bg.aw; rw [hbF]; exact q2
end Go.Fl
namespace Go.Fl
open Go
set_option linter.unusedVariables false
set_option linter.unusedSimpArgs false
variable {N : Nm} {A B : Ar} {σ : Mem} {K : Value → Mem → Prop} {C : Cf} {who : Int}
theorem PhM.kle (hC : C.ok) {b : Bg} {size s0 k : Int} {own : Bool} {w0 : Int → Int} {m : Am} (h : PhM C b size own w0 s0 k m A) : k ≤ C.C + 19 := by
 have hCC := hC.C
 rcases h with ⟨_, _, _, _, h⟩ | ⟨s, F, hb, ⟨_, _, _, h⟩ | ⟨kk, ⟨_, _, _, _, h1, h2⟩, h⟩ | ⟨j, b', _, _, _, h⟩ | ⟨_, _, _, _, _, _, kk, ⟨_, _, _, h1⟩, h⟩⟩
 ·omega
 ·omega
 ·have := h1.kle hC; omega
 ·omega
 ·omega
theorem PhM.spot (hC : C.ok) {b : Bg} {size s0 k : Int} {own : Bool} {w0 w : Int → Int} {m : Am} (h : PhM C b size own w0 s0 k m A) (hal : Alo C b.o b.u b.nx w) (hcl : 0 ≤ classOf size) (hcl3 : classOf size ≤ 3) (h3 : 3 ≤ m.a.pc) (h6 : m.a.pc ≤ 6) :
  ∃ s F j, b.F = s :: F ∧ m.a.at' = s ∧ m.a.sa = C.base j + b.u j ∧ (0 ≤ j ∧ j < C.C) ∧ 0 ≤ b.u j ∧ b.u j + roomOf (classOf size) ≤ C.W := by
 rcases h with ⟨_, _, _, h, _⟩ | ⟨s, F, hb, ⟨h, _⟩ | ⟨kk, ⟨_, _, h, _⟩, _⟩ | ⟨j, b', hg, hp, _⟩ | ⟨_, _, _, _, _, _, kk, ⟨h, _⟩, _⟩⟩
 ·omega
 ·omega
 ·omega
 ·obtain ⟨d1, d2, d3, d4⟩ := hg.bd hC hal hcl hcl3
  exact ⟨s, F, j, hb, hp.has.at', hp.sa, d1, by omega, by omega⟩
 ·omega
theorem Fw.mono {b : Bg} {c c' : Prop} {w0 w : Int → Int} (h : Fw C b c w0 w) (hc : c → c') : Fw C b c' w0 w := ⟨fun t t0 t1 ht => h.slot t t0 t1 fun q => ht (hc q), h.word⟩
theorem PhM.fw (hC : C.ok) {b : Bg} {size s0 k a : Int} {own : Bool} {w0 w : Int → Int} {m : Am} {r : Bool × Am × Ar} (hM : PhM C b size own w0 s0 k m A) (hfit : m.fit C A) (hal : Alo C b.o b.u b.nx w) (hcl : 0 ≤ classOf size) (hcl3 : classOf size ≤ 3)
  (ht : Tch C A m r a) (hf : Fw C b (m.a.pc = 6) w0 A.w) {ch : Prop} (hch : m.a.pc = 5 ∨ m.a.pc = 6 → ch) : Fw C b ch w0 r.2.2.w := by
 have hT := hC.T
 have hS := hC.S
 have hCC := hC.C
 have hr := room_bd hcl hcl3
 have low : a < C.base 0 ∨ (m.a.pc = 4 ∨ m.a.pc = 6) ∧ a = m.a.sa := by
  have hb0 : C.base 0 = 6 + C.T + 2 * C.S + 3 * C.C := by unfold Cf.base; omega
  rcases ht.kind with ⟨_, h | ⟨s, s0, s1, h⟩⟩ | ⟨h1, h, _⟩ | ⟨h1, h⟩ | ⟨h1, h⟩ | ⟨h1, h⟩ | ⟨h1, h⟩
  ·left; omega
  ·left; unfold Cf.slot at h; omega
  ·have := hfit.at' (by omega); left; unfold Cf.slot at h; omega
  ·have := (hfit.pl h1).1.at'; have := (hfit.pl h1).1.cls; left; unfold Cf.chunk at h; omega
  ·have := (hfit.spot (by omega) (by omega)).1; left; unfold Cf.chunk at h; omega
  ·exact .inr ⟨h1, h⟩
  ·have := hfit.at' (by omega); left; unfold Cf.slot at h; omega
 refine ⟨fun t t0 t1 hx => ?_, fun j i j0 j1 i0 i1 i2 => ?_⟩
 ·have hold : A.w (C.slot t) = w0 (C.slot t) := hf.slot t t0 t1 fun q => hx (hch (.inr q))
  by_cases e : C.slot t = a
  ·rcases ht.kind with ⟨_, h | ⟨s, s0, s1, h⟩⟩ | ⟨h1, h, h2⟩ | ⟨h1, h⟩ | ⟨h1, h⟩ | ⟨h1, h⟩ | ⟨h1, h⟩
   ·unfold Cf.slot at e; omega
   ·unfold Cf.slot at e h; omega
   ·rw [h2]; exact hold
   ·have := (hfit.pl h1).1.at'; have := (hfit.pl h1).1.cls; unfold Cf.chunk at h; unfold Cf.slot at e; omega
   ·have := (hfit.spot (by omega) (by omega)).1; unfold Cf.chunk at h; unfold Cf.slot at e; omega
   ·obtain ⟨s, F, j, q1, q2, q3, q4, q5, q6⟩ := hM.spot hC hal hcl hcl3 (by omega) (by omega)
    exact absurd (by rw [e, h, q3]) ((addr_ne hC q4.1 q4.2 q5).1 t t1).symm
   ·obtain ⟨s, F, j, q1, q2, q3, q4, q5, q6⟩ := hM.spot hC hal hcl hcl3 (by omega) (by omega)
    have : t = s := by rw [h, q2] at e; unfold Cf.slot at e; omega
    subst this
    exact absurd q1 (hx (hch (.inl h1)) F)
  ·rw [ht.w _ e]; exact hold
 ·have hge : C.base 0 ≤ C.base j + i := by have := mulW hC j0 (by omega); unfold Cf.base; omega
  rw [ht.w _ ?_]
  ·exact hf.word j i j0 j1 i0 i1 i2
  ·rcases low with q | ⟨q, e⟩
   ·omega
   ·obtain ⟨s, F, jj, q1, q2, q3, q4, q5, q6⟩ := hM.spot hC hal hcl hcl3 (by omega) (by omega)
    rw [e, q3]
    intro q7
    obtain ⟨rfl, q8⟩ := base_inj hC j0 j1 i0 i2 q4.1 q4.2 q5 (by omega) q7
    omega
theorem class_bd (n : Int) : -1 ≤ classOf n ∧ classOf n ≤ 3 := by unfold classOf; (repeat' split) <;> omega
theorem Tch.bd (hC : C.ok) {m : Am} {r : Bool × Am × Ar} {a : Int} (h : Tch C A m r a) (hf : m.fit C A) (hs : m.a.pc = 4 ∨ m.a.pc = 6 → C.base 0 ≤ m.a.sa ∧ m.a.sa < C.len) :
  (0 ≤ a ∧ a < C.len) ∧ (C.base 0 ≤ a → (m.a.pc = 4 ∨ m.a.pc = 6) ∧ a = m.a.sa) := by
 have hl := len_bd hC
 have hT := hC.T
 have hS := hC.S
 have hCC := hC.C
 have hb0 : C.base 0 = 6 + C.T + 2 * C.S + 3 * C.C := by unfold Cf.base; omega
 have hch : C.chunk C.C = 6 + C.T + 2 * C.S + 3 * C.C := rfl
 rcases h.kind with ⟨_, h | ⟨s, s0, s1, h⟩⟩ | ⟨h1, h, _⟩ | ⟨h1, h⟩ | ⟨h1, h⟩ | ⟨h1, h⟩ | ⟨h1, h⟩
 ·omega
 ·unfold Cf.slot at h; omega
 ·have := hf.at' (by omega); unfold Cf.slot at h; omega
 ·have := (hf.pl h1).1.at'; have := (hf.pl h1).1.cls; unfold Cf.chunk at *; omega
 ·have := (hf.spot (by omega) (by omega)).1; unfold Cf.chunk at *; omega
 ·have := hs h1
  exact ⟨by omega, fun _ => ⟨h1, h⟩⟩
 ·have := hf.at' (by omega); unfold Cf.slot at h; omega
structure Mkr (C : Cf) (b : Bg) (size : Int) (own : Bool) (A0 : Ar) (bb k : Int) (m : Am) (A : Ar) : Prop where
 ph : PhM C b size own A0.w A0.s k m A
 pa : Pa C A (bb + k)
 fw : Fw C b (m.a.pc = 6) A0.w A.w
 s : A.s = A0.s + k
 n : A.n = A0.n
 la : A0.la < C.len → A.la < C.len
theorem Mkr.new {b : Bg} {size bb : Int} {own : Bool} (hP : Pa C A bb) (hAw : b.aw C A.w) : Mkr C b size own A bb 0 (Am.new size own) A :=
 ⟨.inl (PhT.new hAw), by simpa using hP, ⟨fun _ _ _ _ => rfl, fun _ _ _ _ _ _ _ => rfl⟩, by omega, rfl, id⟩
theorem Mkr.fit (hC : C.ok) {b : Bg} {size bb k : Int} {own : Bool} {A0 : Ar} {m : Am} (h : Mkr C b size own A0 bb k m A) (hAw : b.aw C A0.w) (hcl : 0 ≤ classOf size) : m.fit C A :=
 h.ph.fit hC h.pa hcl fun s hs => hAw.fre.c.mem s hs
theorem Mkr.step (hC : C.ok) {b : Bg} {size bb k : Int} {own : Bool} {A0 : Ar} {m : Am} (h : Mkr C b size own A0 bb k m A) (hb : bb < 2305843009213693952) (hAw : b.aw C A0.w) (hlv : b.lvok C) (hcl : 0 ≤ classOf size) (k0 : 0 ≤ k) :
  ((∃ a, Tch C A m (m.step C who A) a) ∧ (m.step C who A).2.2.la < C.len) ∧ (((m.step C who A).1 = false ∧ Mkr C b size own A0 bb (k + 1) (m.step C who A).2.1 (m.step C who A).2.2) ∨
   ((m.step C who A).1 = true ∧ DnM C b size own A0.w A0.s (m.step C who A).2.1 (m.step C who A).2.2 ∧ Pa C (m.step C who A).2.2 (bb + k + 1))) := by
 obtain ⟨h, hP', hf, hs, hnn, hla⟩ := h
 have hcl3 := (class_bd size).2
 have hCC := hC.C
 have hF : ∀ s ∈ b.F, 0 ≤ s ∧ s < C.S := fun s hs => hAw.fre.c.mem s hs
 have hnd := hAw.fre.nd
 have hu : ∀ j, 0 ≤ j → j < C.C → 0 ≤ b.u j := fun j j0 j1 => Aw.u0 hAw j0 j1
 have hfit := h.fit hC hP' hcl hF
 have hkl := h.kle hC
 have hcz : ¬ (m.a.pc = 0 ∧ classOf m.a.size < 0) := by
  rintro ⟨q0, q⟩
  rcases h with ⟨_, e, _⟩ | ⟨s, F, hb, ⟨h, _⟩ | ⟨kk, ⟨_, _, h, _⟩, _⟩ | ⟨j, b', hg, hp, _, h⟩ | ⟨_, _, _, _, _, _, kk, ⟨h, _⟩, _⟩⟩
  ·rw [e] at q; omega
  all_goals omega
 obtain ⟨g1, a, g2⟩ := Am.go (who := who) hC (by omega) hP' hfit hcz (fun q => by
  obtain ⟨s, F, j, q1, q2, q3, q4, q5, q6⟩ := h.spot hC hAw.alo hcl hcl3 (by omega) (by omega)
  have := mulW hC q4.1 (by have := hC.C; omega)
  rw [q3]; unfold Cf.base; omega)
 have hst := h.step (who := who) hC hP' (by omega) hcl hcl3 hF hnd hlv hu (fun q t t0 t1 => hf.slot t t0 t1 fun e => by omega) (by omega) g2.s ⟨_, hAw.alo⟩
 have hpc : m.a.pc = 5 ∨ m.a.pc = 6 → (m.step C who A).2.1.a.pc = 6 ∧ ((m.step C who A).1 = true → (m.step C who A).2.1.a.oE = 0) := by
  intro q
  rcases q with q | q
  ·have e : m.step C who A = (false, { m with a := { m.a with pc := 6, oE := 0, oH := putHandle m.a.at' m.a.gen, oV := 0, oS := ((A.by who).store (C.slot m.a.at') (putSlot 1 m.a.sa m.a.gen 0)).s } }, (A.by who).store (C.slot m.a.at') (putSlot 1 m.a.sa m.a.gen 0)) := by
    unfold Am.step; rw [if_neg (by omega), if_neg (by omega), if_neg (by omega), if_neg (by omega), if_neg (by omega), if_pos q]
   rw [e]; exact ⟨rfl, fun x => by cases x⟩
  ·have e : m.step C who A = (true, m, (A.by who).store m.a.sa (putHead 2 m.a.size m.a.at' m.a.gen m.a.own)) := by
    unfold Am.step; rw [if_neg (by omega), if_neg (by omega), if_neg (by omega), if_neg (by omega), if_neg (by omega), if_neg (by omega), if_pos q]
   rw [e]
   refine ⟨q, fun _ => ?_⟩
   rcases h with ⟨_, _, _, h, _⟩ | ⟨s, F, hb, ⟨h, _⟩ | ⟨kk, ⟨_, _, h, _⟩, _⟩ | ⟨j, b', hg, hp, _, h⟩ | ⟨_, _, _, _, _, _, kk, ⟨h, _⟩, _⟩⟩
   ·omega
   ·omega
   ·omega
   ·rcases h with ⟨h, _⟩ | ⟨_, ⟨h, _⟩ | ⟨_, ⟨h, _⟩ | ⟨_, _, h, _⟩⟩⟩
    ·omega
    ·omega
    ·omega
    ·exact h
   ·omega
 have hla' : (m.step C who A).2.2.la < C.len := by
  rw [g2.la]
  refine (g2.bd hC hfit fun q => ?_).1.2
  obtain ⟨s, F, j, u1, u2, u3, u4, u5, u6⟩ := h.spot hC hAw.alo hcl hcl3 (by omega) (by omega)
  have hr := room_bd hcl hcl3
  have h1 := base_of hC u4.1 u4.2 u5 (by omega)
  have h2 := base_ge hC u4.1 u4.2 u5
  have hb0 : C.base 0 = 6 + C.T + 2 * C.S + 3 * C.C := by unfold Cf.base; omega
  rw [u3]; exact ⟨by omega, h1.2.2⟩
 have hg2s := g2.s
 refine ⟨⟨⟨a, g2⟩, hla'⟩, ?_⟩
 rcases hst with ⟨d, hst⟩ | ⟨d, hS, hst⟩
 ·exact .inl ⟨d, hst, by rw [show bb + (k + 1) = bb + k + 1 by omega]; exact g1, h.fw hC hfit hAw.alo hcl hcl3 g2 hf fun q => (hpc q).1, by omega, g2.n.trans hnn, fun _ => hla'⟩
 ·exact .inr ⟨d, ⟨⟨hS, by omega⟩, h.fw hC hfit hAw.alo hcl hcl3 g2 hf fun q => (hpc q).2 d, hst⟩, g1⟩
end Go.Fl
namespace Go.Fl
open Go
set_option linter.unusedVariables false
set_option linter.unusedSimpArgs false
variable {N : Nm} {A B : Ar} {σ : Mem} {K : Value → Mem → Prop} {C : Cf} {who : Int}
def Bg.fr (C : Cf) : Bg := ⟨upL 0 C.S.toNat, fun _ => -1, fun _ => 0, fun _ => 0, 0⟩
theorem w0_high (hC : C.ok) {a : Int} (h : C.chunk 0 ≤ a) : C.w0 a = 0 := by
 have := hC.T; have := hC.S
 unfold Cf.chunk at h
 unfold Cf.w0 Cf.fr Cf.slot
 rw [if_neg (by omega), if_neg (by omega), if_neg (by omega)]
theorem fr_aw (hC : C.ok) : (Bg.fr C).aw C C.w0 := by
 have hT := hC.T
 have hS := hC.S
 have hCC := hC.C
 have hW := hC.W
 have hb0 : C.base 0 = 6 + C.T + 2 * C.S + 3 * C.C := by unfold Cf.base; omega
 have hc0 : C.chunk 0 = 6 + C.T + 2 * C.S := by unfold Cf.chunk; omega
 refine ⟨fre0 hC, ⟨⟨(by decide : (0 : Int) ≤ 0), by show (0 : Int) ≤ C.C; omega⟩, fun c c0 c3 => ⟨w0_open hC c0 c3, (by decide : (-1 : Int) ≤ -1), (by decide : (-1 : Int) < 0)⟩, fun c _ _ h => absurd h (by decide : ¬ (0 : Int) ≤ -1), fun j j0 j1 => ?_, fun j j0 j1 => ⟨w0_chunk hC j0, rfl⟩⟩, fun j j0 j1 => ?_, fun j i j0 j1 i0 i1 => ?_⟩
 ·have : j < 0 := j1
  omega
 ·exact w0_high hC (by unfold Cf.chunk at *; omega)
 ·have : (0 : Int) ≤ i := i0
  have := mulW hC j0 (by omega)
  exact w0_high hC (by rw [hc0]; unfold Cf.base; omega)
theorem Frsh.pa (hC : C.ok) (h : Frsh N C A) : Pa C A (2 * C.S + 2) := by
 have hl := len_bd hC
 have hCC := hC.C
 refine ⟨h.ok, ?_, fun c c0 c3 => ?_⟩
 ·rw [h.n]; omega
 ·rw [h.w, w0_open hC c0 c3]; omega
theorem Frsh.aw (hC : C.ok) (h : Frsh N C A) : (Bg.fr C).aw C A.w := by rw [h.w]; exact fr_aw hC
structure Bg.lvM (b : Bg) (C : Cf) (M : Int) : Prop where
 lv : ∀ j, 0 ≤ j → j < C.C → 0 ≤ b.lv j ∧ b.lv j ≤ M
theorem Bg.lvM.ok {b : Bg} {M : Int} (h : b.lvM C M) (hM : M ≤ 1000000000) : b.lvok C := ⟨fun j j0 j1 => by have := h.lv j j0 j1; omega⟩
theorem Bg.lvM.mono {b : Bg} {M M' : Int} (h : b.lvM C M) (hM : M ≤ M') : b.lvM C M' := ⟨fun j j0 j1 => by have := h.lv j j0 j1; omega⟩
theorem fr_lv : (Bg.fr C).lvM C 0 := ⟨fun _ _ _ => ⟨Int.le_refl 0, Int.le_refl 0⟩⟩
theorem Bg.lvM.count {b b' : Bg} {F : List Int} {M c j : Int} (hC : C.ok) (h : b.lvM C M) (hg : Got C b F c j b') (c0 : 0 ≤ c) (c3 : c ≤ 3) : (b'.count j (roomOf c)).lvM C (M + 17) := by
 have hr := room_bd c0 c3
 refine ⟨fun i i0 i1 => ?_⟩
 have e : (b'.count j (roomOf c)).lv = upd b.lv j (b.lv j + roomOf c) := by
  show upd b'.lv j (b'.lv j + roomOf c) = _
  rw [(hg.has hC).2]
 have := h.lv i i0 i1
 rw [e]
 unfold upd
 split
 ·rename_i q; subst q; omega
 ·omega
theorem Fin.ok {b : Bg} {size s0 s : Int} {own : Bool} {w0 : Int → Int} {m : Am} {F : List Int} (h : Fin C b size own w0 s0 m A) (hF : b.F = s :: F) (hr : good C b.o b.u (classOf size) ∨ b.nx ≠ C.C) :
  m.a.oE = 0 ∧ s0 < m.a.oS ∧ ∃ j b', Got C b F (classOf size) j b' ∧ (0 ≤ j ∧ j < C.C) ∧ (0 ≤ b.u j ∧ b.u j + roomOf (classOf size) ≤ b'.u j ∧ b'.u j ≤ C.W) ∧ m.a.oH = putHandle s (slG (w0 (C.slot s))) ∧ (b'.count j (roomOf (classOf size))).aw C A.w ∧
   A.w (C.slot s) = putSlot 1 (C.base j + b.u j) (slG (w0 (C.slot s))) 0 ∧ A.w (C.base j + b.u j) = putHead 2 size s (slG (w0 (C.slot s))) own ∧ ∀ x, 1 ≤ x → x < roomOf (classOf size) → A.w (C.base j + (b.u j + x)) = 0 := by
 rcases h with ⟨_, _, h, _⟩ | ⟨s', F', h, ⟨_, _, h1, h2, _⟩ | h'⟩
 ·rw [hF] at h; cases h
 ·rcases hr with q | q
  ·exact absurd q h1
  ·exact absurd h2 q
 ·rw [hF] at h
  cases h
  exact h'
theorem Ob.ext {p : Nat} {O : List Nat} {m : Am} {τ : Mem} (h : Ob N p O m σ) (x : Ext σ τ) : Ob N p O m τ := by
 obtain ⟨⟨a, b, h1, h2, h3⟩, h4, h5⟩ := h
 refine ⟨⟨a, b, x _ _ h1, fun e => ?_, fun e => ?_⟩, h4, h5⟩
 ·obtain ⟨q, q1, q2, q3, q4⟩ := h2 e; exact ⟨q, q1, q2, q3, x _ _ q4⟩
 ·obtain ⟨q, q1, q2, q3, q4⟩ := h3 e; exact ⟨q, q1, q2, q3, x _ _ q4⟩
end Go.Fl
namespace Go.Fl
open Go
set_option linter.unusedVariables false
set_option linter.unusedSimpArgs false
variable {N : Nm} {A B : Ar} {σ : Mem} {K : Value → Mem → Prop} {C : Cf} {who : Int}
def GvP (C : Cf) (F : List Int) (o u lv : Int → Int) (nx s : Int) (k : Int) (g : Gv) (w : Int → Int) : Prop :=
 (0 ≤ s ∧ s < C.S) ∧ s ∉ F ∧ (g = ⟨0, s, 0⟩ ∧ k = 0 ∧ Aw C F o u lv nx w ∨ g = ⟨1, s, w 1⟩ ∧ k = 1 ∧ Aw C F o u lv nx w ∨
  g = ⟨2, s, w 1⟩ ∧ k = 2 ∧ ∃ w0, Aw C F o u lv nx w0 ∧ w0 1 = w 1 ∧ w = upd w0 (C.slot s + 1) (putTop (topS (w0 1)) 0))
theorem GvP.step (hC : C.ok) {F : List Int} {o u lv : Int → Int} {nx s k bb : Int} {g : Gv} (h : GvP C F o u lv nx s k g A.w) (ok : A.ok bb) (hb : bb < 4611686018427387904) :
  ((∀ a, a ≠ 1 → a ≠ C.slot s + 1 → (g.step C who A).2.2.w a = A.w a) ∧ (g.step C who A).2.2.s = A.s + 1 ∧ (g.step C who A).2.2.n = A.n ∧ (g.step C who A).2.2.ok (bb + 1) ∧ ((g.step C who A).2.2.la = 1 ∨ (g.step C who A).2.2.la = C.slot s + 1)) ∧
  (((g.step C who A).1 = false ∧ GvP C F o u lv nx s (k + 1) (g.step C who A).2.1 (g.step C who A).2.2.w) ∨ ((g.step C who A).1 = true ∧ Aw C (s :: F) o u lv nx (g.step C who A).2.2.w)) := by
 obtain ⟨s0, hn, h⟩ := h
 have hT := hC.T
 have hS := hC.S
 rcases h with ⟨q, hk, hA⟩ | ⟨q, hk, hA⟩ | ⟨q, hk, w0, hA, e1, e2⟩
 ·rw [q, Gv.step0]
  have a1 := aft_load (who := who) (A := A) (a := 1) ok (by omega)
  exact ⟨⟨fun a _ _ => rfl, a1.s, rfl, a1.ok (by decide) ok ok.w, .inl rfl⟩, .inl ⟨rfl, s0, hn, .inr (.inl ⟨rfl, by omega, hA⟩)⟩⟩
 ·rw [q, Gv.step1]
  have a1 := aft_store (who := who) (A := A) (a := C.slot s + 1) (v := putTop (topS (A.w 1)) 0) ok (by omega)
  have n1 : upd A.w (C.slot s + 1) (putTop (topS (A.w 1)) 0) 1 = A.w 1 := upd_ne _ _ (by unfold Cf.slot; omega)
  refine ⟨⟨fun a _ h2 => by rw [a1.w]; exact upd_ne _ _ h2, a1.s, a1.n, a1.ok (by decide) ok (fun i => upd_cases (P := fun x => 0 ≤ x ∧ x < 18446744073709551616) (putTop_in _ _) (ok.w i)), .inr rfl⟩, .inl ⟨rfl, s0, hn, .inr (.inr ⟨?_, by omega, A.w, hA, ?_, a1.w⟩)⟩⟩
  ·show Gv.mk 2 s (A.w 1) = ⟨2, s, _⟩; rw [a1.w, n1]
  ·rw [a1.w, n1]
 ·rw [q, Gv.step2]
  have a1 := aft_cas (who := who) (A := A) (a := 1) (o := A.w 1) (v := putTop s (topN (A.w 1) + 1)) ok (by omega)
  rw [if_pos rfl] at a1
  refine ⟨⟨fun a h1 _ => by rw [a1.w]; exact upd_ne _ _ h1, a1.s, a1.n, a1.ok (by decide) ok (fun i => upd_cases (P := fun x => 0 ≤ x ∧ x < 18446744073709551616) (putTop_in _ _) (ok.w i)), .inl cas_la⟩, .inr ⟨decide_eq_true rfl, ?_⟩⟩
  show Aw C (s :: F) o u lv nx ((A.by who).cas 1 (A.w 1) (putTop s (topN (A.w 1) + 1))).w
  have := hA.gave hC s0 hn
  unfold gaveW at this
  rw [a1.w, e2, upd_ne _ _ (by unfold Cf.slot; omega)]
  exact this
structure Do where
 n : Int
 ws : Int
 z : Int
 own : Bool
 j : Int
 i : Int
def Do.s (d : Do) : Int := hdSl d.n
def Do.ge (d : Do) : Int := hdGe d.n
def Do.a (d : Do) (C : Cf) : Int := C.base d.j + d.i
def Do.v (d : Do) (C : Cf) : Int := putSlot 4 (d.a C) d.ge (slV d.ws + 1)
def Do.nx (d : Do) (C : Cf) : Int := if C.G ≤ d.ge then putSlot 3 0 d.ge 0 else putSlot 0 0 (d.ge + 1) 0
structure Do.ok (d : Do) (C : Cf) (b : Bg) (w : Int → Int) : Prop where
 n : 0 ≤ d.n ∧ d.n < 18446744073709551616
 hok : hdOk d.n = true
 s : 0 ≤ d.s ∧ d.s < C.S
 sF : d.s ∉ b.F
 ge : 0 ≤ d.ge ∧ d.ge ≤ 65535
 ws : w (C.slot d.s) = d.ws
 st : slS d.ws = 1 ∨ slS d.ws = 2
 sa : slA d.ws = d.a C
 sg : slG d.ws = d.ge
 hd : hdS (w (d.a C)) = d.z ∧ hdO (w (d.a C)) = d.own
 cl : 0 ≤ classOf d.z
 j : 0 ≤ d.j ∧ d.j < C.C
 i : 0 ≤ d.i ∧ d.i + roomOf (classOf d.z) ≤ b.u d.j
 z : d.z + 1 ≤ roomOf (classOf d.z)
 lv : roomOf (classOf d.z) ≤ b.lv d.j
def Do.fr (d : Do) (C : Cf) (w0 w : Int → Int) : Prop := ∀ a, a ≠ C.slot d.s → a ≠ 1 → a ≠ C.slot d.s + 1 → a ≠ C.chunk d.j + 1 → ¬ (d.a C < a ∧ a ≤ d.a C + d.z) → w a = w0 a
def Bg.less (b : Bg) (j n : Int) : Bg := { b with lv := upd b.lv j (b.lv j - n) }
def DrI (C : Cf) (b : Bg) (d : Do) (w0 : Int → Int) (s0 k : Int) (m : Dm) (A : Ar) : Prop :=
 m.d.n = d.n ∧ m.d.own = d.own ∧ (
  (m.d.pc = 0 ∧ k ≤ 0 ∧ A.w = w0 ∧ m.d.hs = 0 ∧ m.d.w = 0) ∨
  (m.d.hs = d.s ∧ m.d.hg = d.ge ∧ m.d.w = d.ws ∧ (
   (m.d.pc = 1 ∧ k ≤ 1 ∧ A.w = w0) ∨
   (m.d.size = d.z ∧ (
    (m.d.pc = 2 ∧ k ≤ 2 ∧ A.w = w0) ∨
    (d.fr C w0 A.w ∧ (
     (m.d.pc = 3 ∧ b.aw C A.w ∧ A.w (C.slot d.s) = d.v C ∧ (m.h.slot = d.s ∧ m.h.w = d.v C ∧ m.h.size = d.z) ∧ (0 ≤ m.h.i ∧ m.h.i ≤ d.z) ∧ (0 ≤ m.h.cell ∧ m.h.cell < 18446744073709551616) ∧
      (m.h.read = false ∧ k ≤ 3 + 2 * m.h.i ∨ m.h.read = true ∧ m.h.i < d.z ∧ A.w m.h.a = m.h.cell ∧ k ≤ 4 + 2 * m.h.i)) ∨
     (A.w (C.slot d.s) = d.nx C ∧ m.d.oE = 0 ∧ (s0 < m.d.oS ∧ m.d.oS ≤ A.s) ∧ (
      (m.d.pc = 5 ∧ b.aw C A.w ∧ k ≤ 4 + 2 * d.z) ∨
      (m.d.pc = 6 ∧ ¬ C.G ≤ d.ge ∧ ∃ kk, GvP C b.F b.o b.u (upd b.lv d.j (b.lv d.j - roomOf (classOf d.z))) b.nx d.s kk m.g A.w ∧ 0 ≤ kk ∧ k ≤ 5 + 2 * d.z + kk))))))))))
structure DnD (C : Cf) (b : Bg) (d : Do) (w0 : Int → Int) (s0 : Int) (m : Dm) (A : Ar) : Prop where
 e : m.d.oE = 0
 st : s0 < m.d.oS ∧ m.d.oS ≤ A.s
 fr : d.fr C w0 A.w
 sl : A.w (C.slot d.s) = d.nx C
 aw : Bg.aw { b.less d.j (roomOf (classOf d.z)) with F := if C.G ≤ d.ge then b.F else d.s :: b.F } C A.w
theorem Do.av (d : Do) (hC : C.ok) {b : Bg} {w : Int → Int} (h : d.ok C b w) (hA : ∃ w, b.aw C w) : (0 ≤ d.a C ∧ d.a C + d.z < C.len ∧ d.a C ≤ 1048575 ∧ C.base 0 ≤ d.a C) ∧ 1 ≤ d.z ∧ d.z ≤ 16 ∧ d.i + d.z < C.W ∧ d.i + d.z < b.u d.j := by
 obtain ⟨w', hA⟩ := hA
 have hr := room_bd h.cl (class_bd d.z).2
 have hz : 1 ≤ d.z ∧ d.z ≤ 16 := by have := h.cl; unfold classOf at this; (repeat' split at this) <;> omega
 have hj := h.j
 have hi := h.i
 have hzz := h.z
 have hu : b.u d.j ≤ C.W := by
  have hW := hC.W
  by_cases e : d.j < b.nx
  ·exact (hA.alo.old _ hj.1 e).2.2.2
  ·have := (hA.alo.new _ (by omega) hj.2).2; omega
 have h1 := base_of hC hj.1 hj.2 hi.1 (by omega)
 have h2 := base_of hC hj.1 hj.2 (i := d.i + d.z) (by omega) (by omega)
 have h3 := base_ge hC hj.1 hj.2 hi.1
 have hl := len_bd hC
 have hb0 : C.base 0 = 6 + C.T + 2 * C.S + 3 * C.C := by unfold Cf.base; omega
 have ea : d.a C = C.base d.j + d.i := rfl
 refine ⟨⟨by omega, by omega, by omega, by omega⟩, hz.1, hz.2, by omega, by omega⟩
theorem DrI.kle {b : Bg} {d : Do} {w0 : Int → Int} {s0 k : Int} {m : Dm} (h : DrI C b d w0 s0 k m A) (hz : d.z ≤ 16) : k ≤ 40 := by
 obtain ⟨_, _, ⟨_, h, _⟩ | ⟨_, _, _, ⟨_, h, _⟩ | ⟨_, ⟨_, h, _⟩ | ⟨_, ⟨_, _, _, _, h1, _, h⟩ | ⟨_, _, _, ⟨_, _, h⟩ | ⟨_, _, kk, ⟨_, _, h1⟩, h2, h⟩⟩⟩⟩⟩⟩ := h
 ·omega
 ·omega
 ·omega
 ·omega
 ·omega
 ·omega
theorem sl_put' {st ad ge ve : Int} (h1 : 0 ≤ st ∧ st ≤ 7) (h2 : 0 ≤ ad ∧ ad ≤ 1048575) (h3 : 0 ≤ ge ∧ ge ≤ 65535) :
  slS (putSlot st ad ge ve) = st ∧ slA (putSlot st ad ge ve) = ad ∧ slG (putSlot st ad ge ve) = ge := by
 have e : putSlot st ad ge ve = putSlot st ad ge (cl ve 4194303) := by
  unfold putSlot; rw [cl_in (n := cl ve 4194303) (cl_nn (by decide)) cl_le]
 have := sl_put (ve := cl ve 4194303) h1 h2 h3 ⟨cl_nn (by decide), cl_le⟩
 rw [e]; exact ⟨this.1, this.2.1, this.2.2.1⟩
theorem Do.vp (d : Do) (hC : C.ok) {b : Bg} {w : Int → Int} (h : d.ok C b w) (hA : ∃ w, b.aw C w) : slS (d.v C) = 4 ∧ slA (d.v C) = d.a C ∧ slG (d.v C) = d.ge := by
 have := d.av hC h hA
 exact sl_put' (by decide) ⟨this.1.1, this.1.2.2.1⟩ h.ge
theorem Do.nxp (d : Do) (hge : 0 ≤ d.ge ∧ d.ge ≤ 65535) (hG : C.G ≤ 65535) : slS (d.nx C) = 3 ∨ slS (d.nx C) = 0 := by
 unfold Do.nx; split
 ·exact .inl (sl_put' (by decide) (by decide) hge).1
 ·exact .inr (sl_put' (by decide) (by decide) (by omega)).1
theorem cas_t {b a o v : Int} (h : A.ok b) (hb : b < 9223372036854775807) (e : A.w a = o) (hv : o ≠ v) : ((A.by who).cas a o v).t a = A.s + 1 := by
 rw [cas_yes (by exact e), store_t, by_s, h.s1 hb, by_w, if_pos (by rw [e]; exact hv), upd_same]
theorem DrI.fit (hC : C.ok) {b : Bg} {d : Do} {w0 : Int → Int} {s0 k : Int} {m : Dm} (h : DrI C b d w0 s0 k m A) (hd : d.ok C b w0) (hA : b.aw C w0) (hw : ∀ i, 0 ≤ A.w i ∧ A.w i < 18446744073709551616) (hw0 : ∀ i, 0 ≤ w0 i ∧ w0 i < 18446744073709551616) (hn : C.len ≤ A.n) : m.fit C A := by
 have hS := hC.S
 have hs := hd.s
 obtain ⟨av1, av2⟩ := d.av hC hd ⟨_, hA⟩
 obtain ⟨v1, v2, v3⟩ := d.vp hC hd ⟨_, hA⟩
 have hws : 0 ≤ d.ws ∧ d.ws < 18446744073709551616 := by rw [← hd.ws]; exact hw0 _
 have hofc : ofC C (d.a C) = d.j := (base_of hC hd.j.1 hd.j.2 hd.i.1 (by omega)).1
 obtain ⟨e1, e2, ⟨h, _, _, h1, h2⟩ | ⟨h1, _, h2, ⟨h, _⟩ | ⟨hz, ⟨h, _⟩ | ⟨_, ⟨h, _, _, h3, h4, h5, _⟩ | ⟨_, _, _, ⟨h, _⟩ | ⟨h, _, kk, ⟨h3, h4, h5⟩, _⟩⟩⟩⟩⟩⟩ := h
 ·exact ⟨by omega, by rw [e1]; exact hd.n, by rw [h1]; omega, by rw [h2]; decide, fun q => by omega, fun q => by omega, fun q => by omega, fun q => by omega⟩
 ·exact ⟨by omega, by rw [e1]; exact hd.n, by rw [h1]; exact hs, by rw [h2]; exact hws, fun q => by rw [h2, hd.sa]; omega, fun q => by omega, fun q => by omega, fun q => by omega⟩
 ·exact ⟨by omega, by rw [e1]; exact hd.n, by rw [h1]; exact hs, by rw [h2]; exact hws, fun q => by omega, fun q => by omega, fun q => by omega, fun q => by omega⟩
 ·refine ⟨by omega, by rw [e1]; exact hd.n, by rw [h1]; exact hs, by rw [h2]; exact hws, fun q => by omega, fun _ => ?_, fun q => by omega, fun q => by omega⟩
  exact ⟨by rw [h3.1]; exact hs, by rw [h3.2.1]; exact putSlot_in _ _ _ _, h5, by omega, by omega, fun q => by rw [h3.2.1, v2]; omega⟩
 ·exact ⟨by omega, by rw [e1]; exact hd.n, by rw [h1]; exact hs, by rw [h2]; exact hws, fun q => by omega, fun q => by omega, fun _ => ⟨by rw [hz]; exact hd.cl, by rw [h2, hd.sa, hofc]; exact hd.j⟩, fun q => by omega⟩
 ·refine ⟨by omega, by rw [e1]; exact hd.n, by rw [h1]; exact hs, by rw [h2]; exact hws, fun q => by omega, fun q => by omega, fun q => by omega, fun _ => ?_⟩
  have w1 := hw 1
  rcases h5 with ⟨q, _⟩ | ⟨q, _⟩ | ⟨q, _⟩
  ·rw [q]; exact ⟨⟨Int.le_refl 0, (by decide : (0 : Int) < 18446744073709551616)⟩, h3⟩
  ·rw [q]; exact ⟨w1, h3⟩
  ·rw [q]; exact ⟨w1, h3⟩
structure Td (C : Cf) (A A' : Ar) (d : Do) : Prop where
 s : A'.s = A.s + 1
 n : A'.n = A.n
 ok : ∀ bb, A.ok bb → A'.ok (bb + 1)
 la : A'.la = C.slot d.s ∨ A'.la = d.a C ∨ A'.la = 1 ∨ A'.la = C.slot d.s + 1 ∨ A'.la = C.chunk d.j + 1 ∨ d.a C < A'.la ∧ A'.la ≤ d.a C + d.z
 hd : A'.la = d.a C → A'.lc = false
theorem DrI.step (hC : C.ok) {b : Bg} {d : Do} {w0 : Int → Int} {s0 k bb : Int} {m : Dm} (h : DrI C b d w0 s0 k m A) (hd : d.ok C b w0) (hA : b.aw C w0) (ok : A.ok bb) (hb : bb < 4611686018427387904) (hs0 : s0 ≤ A.s) (hlv : b.lv d.j < 18446744073709551616) :
  Td C A (m.step C who A).2.2 d ∧
  (((m.step C who A).1 = false ∧ DrI C b d w0 s0 (k + 1) (m.step C who A).2.1 (m.step C who A).2.2) ∨ ((m.step C who A).1 = true ∧ DnD C b d w0 s0 (m.step C who A).2.1 (m.step C who A).2.2)) := by
 have hT := hC.T
 have hS := hC.S
 have hCC := hC.C
 have hs := hd.s
 have hj := hd.j
 have hG := hC.G
 have hr := room_bd hd.cl (class_bd d.z).2
 obtain ⟨av1, av2⟩ := d.av hC hd ⟨_, hA⟩
 obtain ⟨v1, v2, v3⟩ := d.vp hC hd ⟨_, hA⟩
 have hofc : ofC C (d.a C) = d.j := (base_of hC hd.j.1 hd.j.2 hd.i.1 (by omega)).1
 have hb0 : C.base 0 = 6 + C.T + 2 * C.S + 3 * C.C := by unfold Cf.base; omega
 have esl : C.slot d.s = 6 + C.T + 2 * d.s := rfl
 have ech : C.chunk d.j = 6 + C.T + 2 * C.S + 3 * d.j := rfl
 have fr0 : d.fr C w0 w0 := fun _ _ _ _ _ _ => rfl
 have ld : ∀ a, a = C.slot d.s ∨ a = d.a C ∨ d.a C < a ∧ a ≤ d.a C + d.z → Td C A ((A.by who).load a) d := fun a ha =>
  ⟨(aft_load ok (by omega)).s, rfl, fun b2 o2 => by
   have := ok.s; have := o2.s
   have a1 := aft_load (who := who) (A := A) (a := a) ok (by omega)
   exact a1.ok (by decide) o2 o2.w, by rcases ha with h | h | h; exact .inl h; exact .inr (.inl h); exact .inr (.inr (.inr (.inr (.inr h)))), fun _ => rfl⟩
 have cs : ∀ a o v, 0 ≤ v ∧ v < 18446744073709551616 → (a = C.slot d.s ∨ d.a C < a ∧ a ≤ d.a C + d.z) → Td C A ((A.by who).cas a o v) d := fun a o v hv ha => by
  have a1 := aft_cas (who := who) (A := A) (a := a) (o := o) (v := v) ok (by omega)
  refine ⟨a1.s, a1.n, fun b2 o2 => a1.ok (by decide) o2 fun i => ?_, ?_, fun q => ?_⟩
  ·split
   ·exact upd_cases (P := fun x => 0 ≤ x ∧ x < 18446744073709551616) hv (ok.w i)
   ·exact ok.w i
  ·rw [cas_la]; rcases ha with h | h; exact .inl h; exact .inr (.inr (.inr (.inr (.inr h))))
  ·rw [cas_la] at q; omega
 obtain ⟨e1, e2, ⟨h, hk, ew, h1, h2⟩ | ⟨h1, hge, h2, ⟨h, hk, ew⟩ | ⟨hz, ⟨h, hk, ew⟩ | ⟨fr, ⟨h, haw, hsl, ⟨h3a, h3b, h3c⟩, h4, h5, h6⟩ | ⟨hsl, oE, oS, ⟨h, haw, hk⟩ | ⟨h, hng, kk, hg, hk0, hk⟩⟩⟩⟩⟩⟩ := h
 ·have hl : lives (A.w (C.slot (hdSl m.d.n))) (hdGe m.d.n) := by
   rw [e1, ew]
   have := hd.ws; have h3 := hd.st
   exact ⟨by rw [show C.slot (hdSl d.n) = C.slot d.s from rfl, this]; omega, by rw [show C.slot (hdSl d.n) = C.slot d.s from rfl, this]; exact hd.sg⟩
  have e : m.step C who A = (false, { m with d := { m.d with hs := hdSl m.d.n, hg := hdGe m.d.n, w := A.w (C.slot (hdSl m.d.n)), pc := 1 } }, (A.by who).load (C.slot (hdSl m.d.n))) := by
   unfold Dm.step; rw [if_pos h, if_neg ?_, if_pos hl]
   rintro (q | q)
   ·rw [e1, hd.hok] at q; cases q
   ·rw [e1] at q; exact absurd hs.2 (by show ¬ hdSl d.n < C.S; omega)
  rw [e]
  exact ⟨ld _ (.inl (by rw [e1]; rfl)), .inl ⟨rfl, e1, e2, .inr ⟨by show hdSl m.d.n = _; rw [e1]; rfl, by show hdGe m.d.n = _; rw [e1]; rfl, by show A.w (C.slot (hdSl m.d.n)) = _; rw [e1, ew]; exact hd.ws, .inl ⟨rfl, by omega, ew⟩⟩⟩⟩
 ·have e : m.step C who A = (false, { m with d := { m.d with size := hdS (A.w (slA m.d.w)), pc := 2 } }, (A.by who).load (slA m.d.w)) := by
   have := hd.st
   unfold Dm.step; rw [if_neg (by omega), if_pos h, if_neg (by rw [h2, hd.sa, ew, hd.hd.2, e2]; simp), if_neg (by rw [h2]; omega)]
  rw [e]
  exact ⟨ld _ (.inr (.inl (by rw [h2]; exact hd.sa))), .inl ⟨rfl, e1, e2, .inr ⟨h1, hge, h2, .inr ⟨by show hdS (A.w (slA m.d.w)) = _; rw [h2, hd.sa, ew]; exact hd.hd.1, .inl ⟨rfl, by omega, ew⟩⟩⟩⟩⟩
 ·have ev : putSlot 4 (slA m.d.w) (slG m.d.w) (slV m.d.w + 1) = d.v C := by rw [h2, hd.sa, hd.sg]; rfl
  have eq : A.w (C.slot m.d.hs) = m.d.w := by rw [h1, h2, ew]; exact hd.ws
  have e : m.step C who A = (false, { m with d := { m.d with pc := 3 }, h := Hl.new m.d.hs (d.v C) m.d.size }, (A.by who).cas (C.slot m.d.hs) m.d.w (d.v C)) := by
   unfold Dm.step; rw [if_neg (by omega), if_neg (by omega), if_pos h, if_pos eq, ev]
  have a1 := aft_cas (who := who) (A := A) (a := C.slot m.d.hs) (o := m.d.w) (v := d.v C) ok (by omega)
  rw [if_pos eq, h1, ew] at a1
  rw [e, h1]
  refine ⟨cs _ _ _ (putSlot_in _ _ _ _) (.inl rfl), .inl ⟨rfl, e1, e2, .inr ⟨h1, hge, h2, .inr ⟨hz, .inr ⟨fun a n1 _ _ _ _ => by rw [a1.w]; exact upd_ne _ _ n1, .inl ⟨rfl, ?_, by rw [a1.w, upd_same], ⟨rfl, rfl, hz⟩, ⟨Int.le_refl 0, by show (0 : Int) ≤ d.z; omega⟩, (by decide : (0 : Int) ≤ 0 ∧ (0 : Int) < 18446744073709551616), .inl ⟨rfl, by show k + 1 ≤ 3 + 2 * 0; omega⟩⟩⟩⟩⟩⟩⟩
  rw [a1.w]; exact hA.slotw hC hs.1 hs.2
 ·have hha : m.h.a = d.a C + 1 + m.h.i := by unfold Hl.a; rw [h3b, v2]
  have e : m.step C who A = (if (m.h.step C who A).1 = true then (false, { m with d := { m.d with oE := 0, oH := 0, oV := 0, oS := (m.h.step C who A).2.2.t (C.slot m.d.hs), pc := 5 } }, (m.h.step C who A).2.2) else (false, { m with h := (m.h.step C who A).2.1 }, (m.h.step C who A).2.2)) := by
   unfold Dm.step; rw [if_neg (by omega), if_neg (by omega), if_neg (by omega), if_pos h]
  rw [e]
  by_cases ci : m.h.size ≤ m.h.i
  ·have enx : m.h.next C = d.nx C := by unfold Hl.next Do.nx; rw [h3b, v3]
   have eq : A.w (C.slot m.h.slot) = m.h.w := by rw [h3a, h3b]; exact hsl
   have eh : m.h.step C who A = (true, { m.h with won := decide (A.w (C.slot m.h.slot) = m.h.w) }, (A.by who).cas (C.slot m.h.slot) m.h.w (m.h.next C)) := by unfold Hl.step; rw [if_pos ci]
   have a1 := aft_cas (who := who) (A := A) (a := C.slot m.h.slot) (o := m.h.w) (v := m.h.next C) ok (by omega)
   rw [if_pos eq, h3a, h3b, enx] at a1
   have hne : m.h.w ≠ d.nx C := by
    intro q
    have := d.nxp hd.ge hG.2
    rw [← q, h3b, v1] at this; omega
   have ht := cas_t (who := who) (v := m.h.next C) ok (by omega) eq (by rw [enx]; exact hne)
   rw [eh, if_pos rfl]
   dsimp only
   rw [enx] at ht ⊢
   rw [h3a] at ht ⊢
   rw [h1, ht]
   refine ⟨cs _ _ _ (by unfold Do.nx; split <;> exact putSlot_in _ _ _ _) (.inl rfl), .inl ⟨rfl, e1, e2, .inr ⟨by first | exact h1 | rfl, hge, h2, .inr ⟨hz, .inr ⟨fun a n1 n2 n3 n4 n5 => ?_, .inr ⟨?_, rfl, ?_, .inl ⟨rfl, ?_, ?_⟩⟩⟩⟩⟩⟩⟩
   ·rw [h3b, a1.w, upd_ne _ _ n1]; exact fr a n1 n2 n3 n4 n5
   ·rw [h3b, a1.w, upd_same]
   ·have := a1.s; rw [h3b, this]; dsimp only; omega
   ·unfold Bg.aw; rw [h3b, a1.w]; exact Aw.slotw hC haw hs.1 hs.2
   ·omega
  ·have hiz : m.h.i < d.z := by omega
   have hcell : d.a C < m.h.a ∧ m.h.a ≤ d.a C + d.z := by omega
   rcases h6 with ⟨hr0, hk⟩ | ⟨hr1, _, hc, hk⟩
   ·by_cases q : ceF (A.w m.h.a) = true ∧ ceN (A.w m.h.a) = slV m.h.w
    ·have eh : m.h.step C who A = (false, { m.h with cell := A.w m.h.a, read := false, i := m.h.i + 1 }, (A.by who).load m.h.a) := by unfold Hl.step; rw [if_neg ci, if_pos hr0, if_pos q]
     rw [eh, if_neg (show ¬ (false = true) from Bool.false_ne_true)]
     exact ⟨ld _ (.inr (.inr hcell)), .inl ⟨rfl, e1, e2, .inr ⟨h1, hge, h2, .inr ⟨hz, .inr ⟨fr, .inl ⟨h, haw, hsl, ⟨h3a, h3b, h3c⟩, ⟨by dsimp only; omega, by dsimp only; omega⟩, ok.w _, .inl ⟨rfl, by dsimp only; omega⟩⟩⟩⟩⟩⟩⟩
    ·have eh : m.h.step C who A = (false, { m.h with cell := A.w m.h.a, read := true }, (A.by who).load m.h.a) := by unfold Hl.step; rw [if_neg ci, if_pos hr0, if_neg q]
     rw [eh, if_neg (show ¬ (false = true) from Bool.false_ne_true)]
     exact ⟨ld _ (.inr (.inr hcell)), .inl ⟨rfl, e1, e2, .inr ⟨h1, hge, h2, .inr ⟨hz, .inr ⟨fr, .inl ⟨h, haw, hsl, ⟨h3a, h3b, h3c⟩, h4, ok.w _, .inr ⟨rfl, hiz, rfl, by dsimp only; omega⟩⟩⟩⟩⟩⟩⟩
   ·have eh : m.h.step C who A = (false, { m.h with read := false, i := m.h.i + 1 }, (A.by who).cas m.h.a m.h.cell (putCell (ceV m.h.cell) true (slV m.h.w))) := by unfold Hl.step; rw [if_neg ci, if_neg (by rw [hr1]; decide), if_pos hc]
    have a1 := aft_cas (who := who) (A := A) (a := m.h.a) (o := m.h.cell) (v := putCell (ceV m.h.cell) true (slV m.h.w)) ok (by omega)
    rw [if_pos hc] at a1
    rw [eh, if_neg (show ¬ (false = true) from Bool.false_ne_true)]
    refine ⟨cs _ _ _ (putCell_in _ _ _) (.inr hcell), .inl ⟨rfl, e1, e2, .inr ⟨h1, hge, h2, .inr ⟨hz, .inr ⟨fun a n1 n2 n3 n4 n5 => ?_, .inl ⟨h, ?_, ?_, ⟨h3a, h3b, h3c⟩, ⟨by dsimp only; omega, by dsimp only; omega⟩, h5, .inl ⟨rfl, by dsimp only; omega⟩⟩⟩⟩⟩⟩⟩
    ·rw [a1.w, upd_ne _ _ (by rintro rfl; exact n5 hcell)]; exact fr a n1 n2 n3 n4 n5
    ·have e3 : m.h.a = C.base d.j + (d.i + 1 + m.h.i) := by rw [hha]; unfold Do.a; omega
     have hi := hd.i
     rw [a1.w, e3]
     exact Aw.word hC haw hj.1 hj.2 (by omega) (by omega) (by omega)
    ·rw [a1.w, upd_ne _ _ (by omega)]; exact hsl
 ·have e : m.step C who A = (decide (C.G ≤ m.d.hg), { m with d := { m.d with pc := 6 }, g := ⟨0, m.d.hs, 0⟩ }, (A.by who).add (C.chunk d.j + 1) (IntKind.u64.wrap (-roomOf (classOf d.z)))) := by
   unfold Dm.step; rw [if_neg (by omega), if_neg (by omega), if_neg (by omega), if_neg (by omega), if_neg (by omega), if_pos h, h2, hd.sa, hofc, hz]
  have hl := haw.live d.j hj.1 hj.2
  have hlr := hd.lv
  have ew : IntKind.u64.wrap (A.w (C.chunk d.j + 1) + IntKind.u64.wrap (-roomOf (classOf d.z))) = b.lv d.j - roomOf (classOf d.z) := by
   rw [hl, IntKind.wrap_u64, IntKind.wrap_u64]; omega
  have a1 := aft_store (who := who) (A := A) (a := C.chunk d.j + 1) (v := b.lv d.j - roomOf (classOf d.z)) ok (by omega)
  have ea : (A.by who).add (C.chunk d.j + 1) (IntKind.u64.wrap (-roomOf (classOf d.z))) = (A.by who).store (C.chunk d.j + 1) (b.lv d.j - roomOf (classOf d.z)) := by rw [add_eq, by_w, ew]
  have aw' : (b.less d.j (roomOf (classOf d.z))).aw C ((A.by who).store (C.chunk d.j + 1) (b.lv d.j - roomOf (classOf d.z))).w := by
   unfold Bg.aw; rw [a1.w]; exact Aw.lives hC haw hj.1 hj.2
  have fr' : d.fr C w0 ((A.by who).store (C.chunk d.j + 1) (b.lv d.j - roomOf (classOf d.z))).w := fun a n1 n2 n3 n4 n5 => by rw [a1.w, upd_ne _ _ n4]; exact fr a n1 n2 n3 n4 n5
  have sl' : ((A.by who).store (C.chunk d.j + 1) (b.lv d.j - roomOf (classOf d.z))).w (C.slot d.s) = d.nx C := by rw [a1.w, upd_ne _ _ (by omega)]; exact hsl
  have td : Td C A ((A.by who).store (C.chunk d.j + 1) (b.lv d.j - roomOf (classOf d.z))) d :=
   ⟨a1.s, a1.n, fun b2 o2 => a1.ok (by decide) o2 fun i => upd_cases (P := fun x => 0 ≤ x ∧ x < 18446744073709551616) (by omega) (ok.w i), .inr (.inr (.inr (.inr (.inl rfl)))), fun q => by
    have q' : C.chunk d.j + 1 = d.a C := q
    omega⟩
  have oS' : s0 < m.d.oS ∧ m.d.oS ≤ ((A.by who).store (C.chunk d.j + 1) (b.lv d.j - roomOf (classOf d.z))).s := by rw [a1.s]; omega
  rw [e, ea]
  refine ⟨td, ?_⟩
  by_cases g : C.G ≤ d.ge
  ·refine .inr ⟨decide_eq_true (by rw [hge]; exact g), oE, oS', fr', sl', ?_⟩
   rw [if_pos g]; exact aw'
  ·refine .inl ⟨decide_eq_false (by rw [hge]; exact g), e1, e2, .inr ⟨h1, hge, h2, .inr ⟨hz, .inr ⟨fr', .inr ⟨sl', oE, oS', .inr ⟨rfl, g, 0, ⟨hs, hd.sF, .inl ⟨by rw [h1], rfl, aw'⟩⟩, Int.le_refl 0, by omega⟩⟩⟩⟩⟩⟩
 ·have e : m.step C who A = ((m.g.step C who A).1, { m with g := (m.g.step C who A).2.1 }, (m.g.step C who A).2.2) := by
   unfold Dm.step; rw [if_neg (by omega), if_neg (by omega), if_neg (by omega), if_neg (by omega), if_neg (by omega), if_neg (by omega)]
  obtain ⟨⟨q1, q2, q3, q4, q5⟩, q⟩ := hg.step (who := who) hC ok hb
  rw [e]
  have td : Td C A (m.g.step C who A).2.2 d := ⟨q2, q3, fun b2 o2 => ?_, by rcases q5 with q | q; exact .inr (.inr (.inl q)); exact .inr (.inr (.inr (.inl q))), fun q => by
   rcases q5 with q5 | q5 <;> (rw [q5] at q; omega)⟩
  rotate_left
  ·have := o2.s; have := q4.s; have h5 := q4.t
   exact ⟨q4.w, ⟨by omega, by omega⟩, h5⟩
  have fr' : d.fr C w0 (m.g.step C who A).2.2.w := fun a n1 n2 n3 n4 n5 => by rw [q1 a n2 n3]; exact fr a n1 n2 n3 n4 n5
  have sl' : (m.g.step C who A).2.2.w (C.slot d.s) = d.nx C := by rw [q1 _ (by omega) (by omega)]; exact hsl
  have oS' : s0 < m.d.oS ∧ m.d.oS ≤ (m.g.step C who A).2.2.s := by rw [q2]; omega
  refine ⟨td, ?_⟩
  rcases q with ⟨q, h'⟩ | ⟨q, h'⟩
  ·exact .inl ⟨q, e1, e2, .inr ⟨h1, hge, h2, .inr ⟨hz, .inr ⟨fr', .inr ⟨sl', oE, oS', .inr ⟨h, hng, kk + 1, h', by omega, by omega⟩⟩⟩⟩⟩⟩
  ·refine .inr ⟨q, oE, oS', fr', sl', ?_⟩
   rw [if_neg hng]; exact h'
end Go.Fl
namespace Go.Fl
open Go
set_option linter.unusedVariables false
set_option linter.unusedSimpArgs false
variable {N : Nm} {A B : Ar} {σ : Mem} {K : Value → Mem → Prop} {C : Cf} {who : Int}
theorem Bg.aw.pa {b : Bg} {bb : Int} (hC : C.ok) (h : b.aw C A.w) (ok : A.ok bb) (hn : C.len ≤ A.n) : Pa C A bb := by
 refine ⟨ok, hn, fun c c0 c3 => ?_⟩
 have := h.alo.op c c0 c3
 have := h.alo.bd
 omega
theorem Dm.new_fit (hC : C.ok) {n : Int} {o : Bool} (hn : 0 ≤ n ∧ n < 18446744073709551616) : (Dm.new n o).fit C A := by
 have hS := hC.S
 exact ⟨⟨Int.le_refl 0, (by decide : (0 : Int) ≤ 6)⟩, hn, ⟨Int.le_refl 0, by show (0 : Int) < C.S; omega⟩, ⟨Int.le_refl 0, (by decide : (0 : Int) < 18446744073709551616)⟩, fun e => (by cases e), fun e => (by rcases e with e | e <;> cases e), fun e => (by cases e), fun e => (by cases e)⟩
theorem ok_mono {bb b' : Int} (h : A.ok bb) (hb : bb ≤ b') : A.ok b' := ⟨h.w, ⟨h.s.1, by have := h.s.2; omega⟩, h.t⟩
end Go.Fl
namespace Go.Fl
open Go
set_option linter.unusedVariables false
set_option linter.unusedSimpArgs false
variable {N : Nm} {A B : Ar} {σ : Mem} {K : Value → Mem → Prop} {C : Cf} {who : Int}
theorem hd_handle {s g : Int} (s0 : 0 ≤ s ∧ s ≤ 65535) (g0 : 1 ≤ g ∧ g ≤ 65535) : (0 ≤ putHandle s g ∧ putHandle s g < 18446744073709551616) ∧ hdOk (putHandle s g) = true ∧ hdSl (putHandle s g) = s ∧ hdGe (putHandle s g) = g ∧ putHandle s g = s + g * 65536 := by
 have e : putHandle s g = s + g * 65536 := by unfold putHandle; rw [cl_in s0.1 s0.2, cl_in (by omega) g0.2]
 have ho : hdOk (putHandle s g) = true := decide_eq_true (by rw [e]; omega)
 refine ⟨by rw [e]; omega, ho, ?_, ?_, e⟩
 ·unfold hdSl; rw [ho, e]; simp only [if_true]; omega
 ·unfold hdGe; rw [ho, e]; simp only [if_true]; omega
theorem class_room' {n : Int} (h : 0 ≤ classOf n) : (1 ≤ n ∧ n ≤ 16) ∧ n + 1 ≤ roomOf (classOf n) := by
 unfold classOf at *
 split at h
 ·omega
 ·rename_i h1; rw [if_neg h1]
  split at h
  ·rename_i h2; rw [if_pos h2]; refine ⟨by omega, ?_⟩; show n + 1 ≤ 3; omega
  ·rename_i h2; rw [if_neg h2]
   split at h
   ·rename_i h3; rw [if_pos h3]; refine ⟨by omega, ?_⟩; show n + 1 ≤ 5; omega
   ·rename_i h3; rw [if_neg h3]
    split at h
    ·rename_i h4; rw [if_pos h4]; refine ⟨by omega, ?_⟩; show n + 1 ≤ 9; omega
    ·rename_i h4; rw [if_neg h4]
     split at h
     ·rename_i h5; rw [if_pos h5]; refine ⟨by omega, ?_⟩; show n + 1 ≤ 17; omega
     ·omega
def Do.mk' (C : Cf) (b : Bg) (s ge z : Int) (own : Bool) (j : Int) : Do := ⟨putHandle s ge, putSlot 1 (C.base j + b.u j) ge 0, z, own, j, b.u j⟩
theorem Got.cnt (hC : C.ok) {b b' : Bg} {F : List Int} {c j n : Int} (hg : Got C b F c j b') : (b'.count j n).F = F ∧ (b'.count j n).lv = upd b.lv j (b.lv j + n) ∧ (b'.count j n).u = upd b.u j (b.u j + roomOf c) := by
 obtain ⟨h1, h2⟩ := hg.has hC
 refine ⟨h1, ?_, ?_⟩
 ·show upd b'.lv j (b'.lv j + n) = _; rw [h2]
 ·show b'.u = _
  rcases hg with ⟨_, _, q⟩ | ⟨_, _, _, q⟩ <;> rw [q]
theorem Got.do (hC : C.ok) {b b' : Bg} {F : List Int} {z s j ge : Int} {own : Bool} {w : Int → Int} (hc : 0 ≤ classOf z) (s0 : 0 ≤ s ∧ s < C.S) (sF : s ∉ F) (g0 : 1 ≤ ge ∧ ge ≤ 65535) (hg : Got C b F (classOf z) j b') (hal : ∃ w, Alo C b.o b.u b.nx w) (hlv : 0 ≤ b.lv j)
  (h1 : w (C.slot s) = putSlot 1 (C.base j + b.u j) ge 0) (h2 : w (C.base j + b.u j) = putHead 2 z s ge own) : (Do.mk' C b s ge z own j).ok C (b'.count j (roomOf (classOf z))) w := by
 have hS := hC.S
 have hc3 := (class_bd z).2
 obtain ⟨wA, hal⟩ := hal
 obtain ⟨d1, d2, d3, d4⟩ := hg.bd hC hal hc hc3
 obtain ⟨sz, szr⟩ := class_room' hc
 obtain ⟨c1, c2, c3⟩ := hg.cnt hC (n := roomOf (classOf z))
 obtain ⟨u0, u1, u2, u3, u4⟩ := hd_handle (s := s) (g := ge) (by omega) g0
 have hb1 := base_of hC d1.1 d1.2 d2.1 (by omega)
 have hb2 := base_ge hC d1.1 d1.2 d2.1
 have hl := len_bd hC
 obtain ⟨p1, p2, p3, p4⟩ := sl_put (st := 1) (ad := C.base j + b.u j) (ge := ge) (ve := 0) (by decide) (by omega) (by omega) (by decide)
 obtain ⟨q1, q2, q3, q4, q5⟩ := hd_put (k := 2) (s := z) (t := s) (g := ge) (o := own) (by decide) (by omega) (by omega) (by omega)
 have es : (Do.mk' C b s ge z own j).s = s := u2
 have eg : (Do.mk' C b s ge z own j).ge = ge := u3
 exact ⟨u0, u1, by rw [es]; exact s0, by rw [es, c1]; exact sF, by rw [eg]; omega, by rw [es]; exact h1, .inl p1, p2, by rw [eg]; exact p3, ⟨by show hdS (w (C.base j + b.u j)) = z; rw [h2]; exact q2, by show hdO (w (C.base j + b.u j)) = own; rw [h2]; exact q5⟩, hc, d1,
  ⟨d2.1, by show b.u j + roomOf (classOf z) ≤ (b'.count j (roomOf (classOf z))).u j; rw [c3, upd_same]; exact Int.le_refl _⟩, szr, by show roomOf (classOf z) ≤ (b'.count j (roomOf (classOf z))).lv j; rw [c2, upd_same]; omega⟩
theorem Do.ok.keep {d : Do} {b b' : Bg} {w w' : Int → Int} (h : d.ok C b w) (sF : d.s ∉ b'.F) (h1 : w' (C.slot d.s) = w (C.slot d.s)) (h2 : w' (d.a C) = w (d.a C)) (hu : b.u d.j ≤ b'.u d.j) (hlv : roomOf (classOf d.z) ≤ b'.lv d.j) : d.ok C b' w' :=
 ⟨h.n, h.hok, h.s, sF, h.ge, by rw [h1]; exact h.ws, h.st, h.sa, h.sg, by rw [h2]; exact h.hd, h.cl, h.j, ⟨h.i.1, by have := h.i.2; omega⟩, h.z, hlv⟩
theorem Do.ok.word {d : Do} {b : Bg} {w : Int → Int} {v : Int} (hC : C.ok) (h : d.ok C b w) (ha : C.base 0 ≤ d.a C) (h1 : slS v = 1 ∨ slS v = 2) (h2 : slA v = d.a C) (h3 : slG v = d.ge) : ({ d with ws := v } : Do).ok C b (upd w (C.slot d.s) v) := by
 have hb0 : C.base 0 = 6 + C.T + 2 * C.S + 3 * C.C := by unfold Cf.base; omega
 have hs := h.s
 have hCC := hC.C
 have ne : d.a C ≠ C.slot d.s := by unfold Cf.slot; omega
 refine ⟨h.n, h.hok, h.s, h.sF, h.ge, upd_same _ _ _, h1, h2, h3, ?_, h.cl, h.j, h.i, h.z, h.lv⟩
 show hdS (upd w (C.slot d.s) v (d.a C)) = d.z ∧ hdO (upd w (C.slot d.s) v (d.a C)) = d.own
 rw [upd_ne _ _ ne]; exact h.hd
end Go.Fl
namespace Go.Fl
open Go
set_option linter.unusedVariables false
set_option linter.unusedSimpArgs false
variable {N : Nm} {A B : Ar} {σ : Mem} {K : Value → Mem → Prop} {C : Cf} {who : Int}
theorem cells_snoc {k : IntKind} {n : Nat} {f g : Int → Int} (h : ∀ i : Int, 0 ≤ i → i < n → g i = f i) : cells k n f ++ [.int k (g n)] = cells k (n + 1) g := by
 unfold cells
 rw [List.range_succ, List.map_append]
 congr 1
 apply List.map_congr_left
 intro i hi
 rw [h i (by omega) (by have := List.mem_range.1 hi; omega)]
def updB (f : Int → Bool) (a : Int) (v : Bool) : Int → Bool := fun i => if i = a then v else f i
def sumN (f : Int → Int) : Nat → Int
 | 0 => 0
 | n + 1 => sumN f n + f n
theorem sumN_congr {f g : Int → Int} : ∀ {n : Nat}, (∀ i : Int, 0 ≤ i → i < n → f i = g i) → sumN f n = sumN g n
 | 0, _ => rfl
 | n + 1, h => by
  show sumN f n + f n = sumN g n + g n
  rw [sumN_congr (n := n) fun i i0 i1 => h i i0 (by omega), h n (by omega) (by omega)]
theorem sumN_nn {f : Int → Int} : ∀ {n : Nat}, (∀ i, 0 ≤ f i) → 0 ≤ sumN f n
 | 0, _ => Int.le_refl 0
 | n + 1, h => by have := sumN_nn (n := n) h; have := h n; show 0 ≤ sumN f n + f n; omega
theorem sumN_le {f : Int → Int} {k : Int} : ∀ {n : Nat}, (∀ i, 0 ≤ f i) → 0 ≤ k → k < n → f k ≤ sumN f n
 | 0, _, h0, h1 => by omega
 | n + 1, h, h0, h1 => by
  show f k ≤ sumN f n + f n
  by_cases e : k = n
  ·subst e; have := sumN_nn (n := n) h; omega
  ·have := sumN_le (n := n) h h0 (by omega); have := h n; omega
theorem sumN_upd {f : Int → Int} {k v : Int} : ∀ {n : Nat}, 0 ≤ k → k < n → sumN (upd f k v) n = sumN f n - f k + v
 | 0, h0, h1 => by omega
 | n + 1, h0, h1 => by
  show sumN (upd f k v) n + upd f k v n = sumN f n + f n - f k + v
  by_cases e : k = n
  ·subst e
   rw [upd_same, sumN_congr (f := upd f (n : Int) v) (g := f) fun i i0 i1 => upd_ne _ _ (by omega)]; omega
  ·rw [upd_ne _ _ (by omega), sumN_upd (n := n) h0 (by omega)]; omega
def Do.rm (d : Do) : Int := roomOf (classOf d.z)
def part (dd : Int → Do) (li : Int → Bool) (j : Int) : Int → Int := fun k => if li k = true ∧ (dd k).j = j then (dd k).rm else 0
theorem Do.rm0 {d : Do} : 0 < d.rm ∧ d.rm ≤ 17 := by
 unfold Do.rm roomOf; (repeat' split) <;> decide
def addD (dd : Int → Do) (n : Int) (d : Do) : Int → Do := fun k => if k = n then d else dd k
end Go.Fl
namespace Go.Fl
open Go
set_option linter.unusedVariables false
set_option linter.unusedSimpArgs false
variable {N : Nm} {A B : Ar} {σ : Mem} {K : Value → Mem → Prop} {C : Cf} {who : Int}
theorem Ph.ck (hC : C.ok) {o u : Int → Int} {nx c k : Int} {p : Pl} (c0 : 0 ≤ c) (c3 : c ≤ 3) (h : Ph C o u nx c k p A.w) {j : Int} (j0 : 0 ≤ j) (j1 : j < nx) : chC ((p.step C who A).2.2.w (C.chunk j)) = chC (A.w (C.chunk j)) := by
 have hT := hC.T; have hS := hC.S
 have ld : ∀ a, ((A.by who).load a).w = A.w := fun _ => rfl
 obtain ⟨_, hcl, h⟩ := h
 by_cases p0 : p.pc = 0
 ·have e : (p.step C who A).2.2 = (A.by who).load (2 + p.cls) := by unfold Pl.step; rw [if_pos p0]
  rw [e, ld]
 by_cases p1 : p.pc = 1
 ·have e : (p.step C who A).2.2 = (A.by who).load (C.chunk p.at') := by unfold Pl.step; rw [if_neg p0, if_pos p1]
  rw [e, ld]
 by_cases p3 : p.pc = 3
 ·have e : (p.step C who A).2.2 = (A.by who).load (C.chunk p.at') := by unfold Pl.step; rw [if_neg p0, if_neg p1, if_neg (by omega), if_pos p3]; dsimp only; split <;> rfl
  rw [e, ld]
 by_cases p2 : p.pc = 2
 ·have e : (p.step C who A).2.2 = (A.by who).cas (C.chunk p.at') p.w (putChunk (chS p.w) (chC p.w) (chU p.w + roomOf p.cls) (chN p.w)) := by unfold Pl.step; rw [if_neg p0, if_neg p1, if_pos p2]
  rw [e]
  by_cases q : A.w (C.chunk p.at') = p.w
  ·rw [cas_yes (by exact q)]
   show chC (upd A.w (C.chunk p.at') _ (C.chunk j)) = _
   by_cases e : C.chunk j = C.chunk p.at'
   ·rw [e, upd_same, q]
    unfold putChunk chC cl
    have := chS_bd p.w
    unfold chS at *
    omega
   ·rw [upd_ne _ _ e]
  ·rw [cas_no (by exact q)]; rfl
 by_cases p4 : p.pc = 4
 ·have e : (p.step C who A).2.2 = (A.by who).cas (C.chunk p.at') p.w p.fresh := by unfold Pl.step; rw [if_neg p0, if_neg p1, if_neg p2, if_neg p3, if_pos p4]; split <;> rfl
  have hat : p.at' = nx := by
   rcases h with ⟨_, h⟩ | ⟨_, ⟨_, h⟩ | h⟩ <;> omega
  rw [e]
  by_cases q : A.w (C.chunk p.at') = p.w
  ·rw [cas_yes (by exact q)]
   show chC (upd A.w (C.chunk p.at') _ (C.chunk j)) = _
   rw [upd_ne _ _ fun e => by have := chunk_inj e; omega]
  ·rw [cas_no (by exact q)]; rfl
 have p5 : p.pc = 5 := by
  rcases h with ⟨_, h⟩ | ⟨_, ⟨_, h⟩ | h⟩ <;> omega
 have e : (p.step C who A).2.2 = (A.by who).cas (2 + p.cls) p.opn (p.at' + 1) := by unfold Pl.step; rw [if_neg p0, if_neg p1, if_neg p2, if_neg p3, if_neg p4, if_pos p5]
 rw [e]
 by_cases q : A.w (2 + p.cls) = p.opn
 ·rw [cas_yes (by exact q)]
  show chC (upd A.w (2 + p.cls) _ (C.chunk j)) = _
  rw [upd_ne _ _ (by unfold Cf.chunk; omega)]
 ·rw [cas_no (by exact q)]; rfl
theorem Mkr.ck (hC : C.ok) {b : Bg} {size bb k : Int} {own : Bool} {A0 : Ar} {m : Am} (h : Mkr C b size own A0 bb k m A) (hb : bb < 2305843009213693952) (hAw : b.aw C A0.w) (hlv : b.lvok C) (hcl : 0 ≤ classOf size) (k0 : 0 ≤ k) {j : Int} (j0 : 0 ≤ j) (j1 : j < b.nx) :
  chC ((m.step C who A).2.2.w (C.chunk j)) = chC (A.w (C.chunk j)) := by
 have hT := hC.T; have hS := hC.S; have hCC := hC.C
 have hcl3 := (class_bd size).2
 obtain ⟨⟨⟨a, ht⟩, _⟩, _⟩ := h.step (who := who) hC hb hAw hlv hcl k0
 have hnx := hAw.alo.bd
 by_cases c2 : m.a.pc = 2
 ·have hp : ∃ kk, Ph C b.o b.u b.nx (classOf size) kk m.t A.w := by
   rcases h.ph with q | ⟨s, F, hF, q | ⟨kk, q, _⟩ | ⟨jj, b', _, hs, _, q⟩ | ⟨_, _, _, _, _, _, kk, q, _⟩⟩
   ·have := q.2.2.2.1; omega
   ·omega
   ·exact ⟨kk, q.2.2.2.2.1⟩
   ·rcases q with q | q
    ·omega
    ·rcases q.2 with q | ⟨_, q | q⟩ <;> omega
   ·have := q.1; omega
  obtain ⟨kk, hp⟩ := hp
  have e : (m.step C who A).2.2 = (m.t.step C who A).2.2 := by
   unfold Am.step
   rw [if_neg (by omega), if_neg (by omega), if_pos c2]
   dsimp only
   (repeat' split) <;> rfl
  rw [e]
  exact hp.ck hC hcl hcl3 j0 j1
 by_cases c1 : m.a.pc = 1
 ·rcases ht.kind with ⟨q, _⟩ | ⟨_, _, q⟩ | ⟨q, _⟩ | ⟨q, _⟩ | ⟨q, _⟩ | ⟨q, _⟩
  ·rcases q with q | q <;> (rw [c1] at q; exact absurd q (by decide))
  ·rw [q]
  all_goals omega
 have hne : C.chunk j ≠ a := by
  have hck := C.chunk j
  rcases ht.kind with ⟨_, q | ⟨s, s0, s1, q⟩⟩ | ⟨q, _⟩ | ⟨q, _⟩ | ⟨q, q'⟩ | ⟨q, q'⟩ | ⟨q, q'⟩
  ·unfold Cf.chunk; omega
  ·unfold Cf.slot at q; unfold Cf.chunk; omega
  ·omega
  ·omega
  ·unfold Cf.chunk at *; omega
  ·obtain ⟨s, F, jj, _, _, q1, q2, q3, q4⟩ := h.ph.spot hC hAw.alo hcl hcl3 (by omega) (by omega)
   have := base_ge hC q2.1 q2.2 q3
   unfold Cf.chunk; omega
  ·obtain ⟨s, F, jj, hF, q0, q1, q2, q3, q4⟩ := h.ph.spot hC hAw.alo hcl hcl3 (by omega) (by omega)
   have hm := hAw.fre.c.mem s (by rw [hF]; simp)
   unfold Cf.slot at q'; unfold Cf.chunk; omega
 rw [ht.w _ hne]
def lowW (C : Cf) (i : Int) : Prop := i = 0 ∨ 6 ≤ i ∧ i < 6 + C.T
theorem Mkr.lo (hC : C.ok) {b : Bg} {size bb k : Int} {own : Bool} {A0 : Ar} {m : Am} (h : Mkr C b size own A0 bb k m A) (hb : bb < 2305843009213693952) (hAw : b.aw C A0.w) (hlv : b.lvok C) (hcl : 0 ≤ classOf size) (k0 : 0 ≤ k) {i : Int} (hi : lowW C i) : (m.step C who A).2.2.w i = A.w i := by
 have hT := hC.T; have hS := hC.S; have hCC := hC.C
 have hcl3 := (class_bd size).2
 obtain ⟨⟨⟨a, ht⟩, _⟩, _⟩ := h.step (who := who) hC hb hAw hlv hcl k0
 have hft := h.fit hC hAw hcl
 have hi' : i = 0 ∨ 6 ≤ i ∧ i < 6 + C.T := hi
 have sp : 3 ≤ m.a.pc → m.a.pc ≤ 6 → (0 ≤ m.a.at' ∧ m.a.at' < C.S) ∧ 6 + C.T + 2 * C.S + 3 * C.C ≤ m.a.sa := fun q1 q2 => by
  obtain ⟨s, F, jj, hF, q0, q1, q2, q3, q4⟩ := h.ph.spot hC hAw.alo hcl hcl3 q1 q2
  have hm := hAw.fre.c.mem s (by rw [hF]; simp)
  have := base_ge hC q2.1 q2.2 q3
  omega
 by_cases c1 : m.a.pc = 1
 ·rcases ht.kind with ⟨q, _⟩ | ⟨_, _, q⟩ | ⟨q, _⟩ | ⟨q, _⟩ | ⟨q, _⟩ | ⟨q, _⟩
  ·rcases q with q | q <;> (rw [c1] at q; exact absurd q (by decide))
  ·rw [q]
  all_goals omega
 refine ht.w _ ?_
 rcases ht.kind with ⟨_, q | ⟨s, s0, s1, q⟩⟩ | ⟨q, _⟩ | ⟨q, q'⟩ | ⟨q, q'⟩ | ⟨q, q'⟩ | ⟨q, q'⟩
 ·omega
 ·unfold Cf.slot at q; omega
 ·omega
 ·have hf2 := (hft.pl q).1
  rcases q' with q' | q'
  ·have := hf2.cls; omega
  ·have := hf2.at'; unfold Cf.chunk at q'; omega
 ·have hsc := (hft.spot (by omega) (by omega)).1
  unfold Cf.chunk at q'; omega
 ·have := (sp (by omega) (by omega)).2; omega
 ·have := (sp (by omega) (by omega)).1; unfold Cf.slot at q'; omega
theorem c_MakeK (hN : N.ok) (hC : C.ok) (hA : isA N A σ) {b : Bg} {size bb : Int} {own : Bool} (hP : Pa C A bb) (hb : bb < 2305843009213693952) (hAw : b.aw C A.w) (hlv : b.lvok C) (hcl : 0 ≤ classOf size)
  (hk : ∀ m A' τ, DnM C b size own A.w A.s m A' → Pa C A' (bb + 100) → A'.n = A.n → (∀ j, 0 ≤ j → j < b.nx → chC (A'.w (C.chunk j)) = chC (A.w (C.chunk j))) → (∀ i, lowW C i → A'.w i = A.w i) → isA N A' τ → Keep N.l σ τ → K (.agg #[.int .i64 m.a.oE, .int .u64 m.a.oH, .int .i64 m.a.oV, .int .i64 m.a.oS]) τ) :
  s_bb [N.env C who, .int .i64 size, .bool own] K σ := by
 have hCC := hC.C
 refine c_Make hN hC hA (fun k m A' => Mkr C b size own A bb k m A' ∧ (∀ j, 0 ≤ j → j < b.nx → chC (A'.w (C.chunk j)) = chC (A.w (C.chunk j))) ∧ ∀ i, lowW C i → A'.w i = A.w i) (fun m A' => DnM C b size own A.w A.s m A' ∧ Pa C A' (bb + 100) ∧ A'.n = A.n ∧ (∀ j, 0 ≤ j → j < b.nx → chC (A'.w (C.chunk j)) = chC (A.w (C.chunk j))) ∧ ∀ i, lowW C i → A'.w i = A.w i) ⟨.new hP hAw, fun _ _ _ => rfl, fun _ _ => rfl⟩ ?_ (fun m A' h => by have := h.1.ph.kle hC; omega) fun m A' τ h => hk m A' τ h.1 h.2.1 h.2.2.1 h.2.2.2.1 h.2.2.2.2
 rintro k m A' k0 k1 ⟨h, hck, hlo⟩
 refine ⟨h.fit hC hAw hcl, h.pa.ok.w, h.pa.n, ?_⟩
 have hkl := h.ph.kle hC
 have hck' : ∀ j, 0 ≤ j → j < b.nx → chC ((m.step C who A').2.2.w (C.chunk j)) = chC (A.w (C.chunk j)) := fun j j0 j1 => (h.ck hC hb hAw hlv hcl k0 j0 j1).trans (hck j j0 j1)
 have hlo' : ∀ i, lowW C i → (m.step C who A').2.2.w i = A.w i := fun i hi => (h.lo hC hb hAw hlv hcl k0 hi).trans (hlo i hi)
 obtain ⟨⟨⟨a, ht⟩, hla⟩, h2⟩ := h.step (who := who) hC hb hAw hlv hcl k0
 rcases h2 with ⟨d, h'⟩ | ⟨d, h', hP'⟩
 ·rw [if_neg (by rw [d]; decide)]; exact ⟨h', hck', hlo'⟩
 ·rw [if_pos d]; exact ⟨h', hP'.mono (by omega), ht.n.trans h.n, hck', hlo'⟩
end Go.Fl
namespace Go.Fl
open Go
set_option linter.unusedVariables false
set_option linter.unusedSimpArgs false
variable {N : Nm} {A B : Ar} {σ : Mem} {K : Value → Mem → Prop} {C : Cf} {who : Int}
structure Dw (C : Cf) (i : Int) (n : Nat) (dd : Int → Do) (li : Int → Bool) (w : Int → Int) (b : Bg) : Prop where
 aw : b.aw C w
 lv : b.lvM C (17 * i)
 gen : ∀ s, 0 ≤ s → s < C.S → 1 ≤ slG (w (C.slot s)) ∧ slG (w (C.slot s)) ≤ 1 + i
 hd : ∀ k : Int, 0 ≤ k → k < n → ((0 ≤ (dd k).n ∧ (dd k).n < 18446744073709551616) ∧ hdOk (dd k).n = true ∧ 0 ≤ (dd k).s ∧ (dd k).s < C.S) ∧ 0 ≤ classOf (dd k).z ∧ (1 ≤ (dd k).ge ∧ (dd k).ge ≤ 1 + i)
 ok : ∀ k : Int, 0 ≤ k → k < n → li k = true → (dd k).ok C b w
 dead : ∀ k : Int, 0 ≤ k → k < n → li k = false → (dd k).ge < slG (w (C.slot (dd k).s))
 nsl : ∀ k l : Int, 0 ≤ k → k < n → 0 ≤ l → l < n → li k = true → li l = true → k ≠ l → (dd k).s ≠ (dd l).s
 ns : ∀ k l : Int, 0 ≤ k → k < n → 0 ≤ l → l < n → k ≠ l → (dd k).j ≠ (dd l).j ∨ (dd k).i + (dd k).rm ≤ (dd l).i ∨ (dd l).i + (dd l).rm ≤ (dd k).i
 sm : ∀ j, 0 ≤ j → j < C.C → sumN (part dd li j) n = b.lv j
 nle : (n : Int) ≤ i
 pl : ∀ k : Int, 0 ≤ k → k < n → ((0 ≤ (dd k).j ∧ (dd k).j < b.nx) ∧ 0 ≤ (dd k).i ∧ (dd k).i + (dd k).rm ≤ b.u (dd k).j) ∧ chC (w (C.chunk (dd k).j)) = classOf (dd k).z ∧ w ((dd k).a C) = putHead 2 (dd k).z (dd k).s (dd k).ge (dd k).own
 cov : ∀ j x, 0 ≤ j → j < b.nx → 0 ≤ x → x < b.u j → x % roomOf (chC (w (C.chunk j))) = 0 → ∃ k : Int, (0 ≤ k ∧ k < n) ∧ (dd k).j = j ∧ (dd k).i = x
 um : ∀ j, 0 ≤ j → j < b.nx → b.u j % roomOf (chC (w (C.chunk j))) = 0 ∧ chC (w (C.chunk j)) ≤ 3 ∧ 0 < b.u j
theorem Dw.new (hC : C.ok) (h : Frsh N C A) : Dw C 0 0 (fun _ => ⟨0, 0, 0, false, 0, 0⟩) (fun _ => false) A.w (Bg.fr C) := by
 have haw := h.aw hC
 refine ⟨haw, fr_lv, fun s s0 s1 => ?_, fun k k0 k1 => by omega, fun k k0 k1 => by omega, fun k k0 k1 => by omega, fun k l k0 k1 => by omega, fun k l k0 k1 => by omega, fun j _ _ => rfl, Int.le_refl 0, fun k k0 k1 => by omega, fun j x j0 j1 => ?_, fun j j0 j1 => ?_⟩
 ·rw [h.w]
  have hT := hC.T
  unfold Cf.w0 Cf.fr
  rw [if_neg (by unfold Cf.slot; omega), if_neg (by unfold Cf.slot; omega), if_pos (by unfold Cf.slot; omega), if_pos (by unfold Cf.slot; omega)]
  exact ⟨by decide, by decide⟩
 ·have : j < 0 := j1; omega
 ·have : j < 0 := j1; omega
theorem Dw.mono {i i' : Int} {n : Nat} {dd : Int → Do} {li : Int → Bool} {w : Int → Int} {b : Bg} (h : Dw C i n dd li w b) (hi : i ≤ i') : Dw C i' n dd li w b :=
 ⟨h.aw, h.lv.mono (by omega), fun s s0 s1 => by have := h.gen s s0 s1; omega, fun k k0 k1 => by have := h.hd k k0 k1; exact ⟨this.1, this.2.1, by omega⟩, h.ok, h.dead, h.nsl, h.ns, h.sm, by have := h.nle; omega, h.pl, h.cov, h.um⟩
theorem rm_nn {dd : Int → Do} {li : Int → Bool} {j k : Int} : 0 ≤ part dd li j k := by
 unfold part Do.rm roomOf; split
 ·(repeat' split) <;> decide
 ·decide
theorem aw_ule (hC : C.ok) {b : Bg} {w : Int → Int} (h : b.aw C w) {j : Int} (j0 : 0 ≤ j) (j1 : j < C.C) : 0 ≤ b.u j ∧ b.u j ≤ C.W := by
 have hW := hC.W
 by_cases q : j < b.nx
 ·have := h.alo.old j j0 q; omega
 ·have := (h.alo.new j (by omega) j1).2; omega
theorem Dw.make (hC : C.ok) {i : Int} {n : Nat} {dd : Int → Do} {li : Int → Bool} {z s j : Int} {own : Bool} {w w' : Int → Int} {b b' : Bg} {F : List Int} (h : Dw C i n dd li w b) (hi : i ≤ 1000) (hF : b.F = s :: F) (hc : 0 ≤ classOf z)
  (hg : Got C b F (classOf z) j b') (haw : (b'.count j (roomOf (classOf z))).aw C w') (h1 : w' (C.slot s) = putSlot 1 (C.base j + b.u j) (slG (w (C.slot s))) 0) (h2 : w' (C.base j + b.u j) = putHead 2 z s (slG (w (C.slot s))) own)
  (fw : Fw C b True w w') (hck : ∀ j, 0 ≤ j → j < b.nx → chC (w' (C.chunk j)) = chC (w (C.chunk j))) : Dw C (i + 1) (n + 1) (addD dd n (Do.mk' C b s (slG (w (C.slot s))) z own j)) (updB li n true) w' (b'.count j (roomOf (classOf z))) := by
 have hm := h.aw.fre.c.mem s (by rw [hF]; simp)
 have hnd := h.aw.fre.nd
 rw [hF] at hnd
 have hsF := (List.nodup_cons.1 hnd).1
 have hge := h.gen s hm.1 hm.2
 obtain ⟨c1, c2, c3⟩ := hg.cnt hC (n := roomOf (classOf z))
 obtain ⟨d1, d2, d3, d4⟩ := hg.bd hC h.aw.alo hc (class_bd z).2
 have hlv0 := h.lv.lv j d1.1 d1.2
 have hS := hC.S
 have hr := room_bd hc (class_bd z).2
 have hnew := hg.do (own := own) hC hc hm hsF (by omega : 1 ≤ slG (w (C.slot s)) ∧ slG (w (C.slot s)) ≤ 65535) ⟨_, h.aw.alo⟩ hlv0.1 h1 h2
 obtain ⟨u0, u1, u2, u3, u4⟩ := hd_handle (s := s) (g := slG (w (C.slot s))) (by omega) (by omega)
 have jcase : (good C b.o b.u (classOf z) ∧ j = b.o (classOf z) ∧ j < b.nx ∧ (b'.count j (roomOf (classOf z))).nx = b.nx) ∨ (j = b.nx ∧ b.u j = 0 ∧ (b'.count j (roomOf (classOf z))).nx = b.nx + 1) := by
  rcases hg with ⟨g, e, rfl⟩ | ⟨g, nx, e, rfl⟩
  ·have := h.aw.alo.op _ hc (class_bd z).2
   exact .inl ⟨g, e, by omega, rfl⟩
  ·exact .inr ⟨e, (h.aw.alo.new j (by omega) d1.2).2, rfl⟩
 have hcj : chC (w' (C.chunk j)) = classOf z := by
  have := haw.alo.cls _ hc (class_bd z).2 (by show 0 ≤ b'.o (classOf z); omega)
  rw [show (b'.count j (roomOf (classOf z))).o (classOf z) = j from d4] at this
  exact this
 have hcjo : j < b.nx → chC (w (C.chunk j)) = classOf z := fun q => by rw [← hck j d1.1 q]; exact hcj
 generalize hd : Do.mk' C b s (slG (w (C.slot s))) z own j = d at *
 have ds : d.s = s := by subst hd; exact u2
 have dj : d.j = j := by subst hd; rfl
 have di : d.i = b.u j := by subst hd; rfl
 have dz : d.z = z := by subst hd; rfl
 have dg : d.ge = slG (w (C.slot s)) := by subst hd; exact u3
 have dow : d.own = own := by subst hd; rfl
 have dr : d.rm = roomOf (classOf z) := by subst hd; rfl
 have da : d.a C = C.base j + b.u j := by subst hd; rfl
 have wS : ∀ t, 0 ≤ t → t < C.S → t ≠ s → w' (C.slot t) = w (C.slot t) := fun t t0 t1 ht => fw.slot t t0 t1 fun _ F' e => by rw [hF] at e; cases e; exact ht rfl
 have wG : ∀ t, 0 ≤ t → t < C.S → slG (w' (C.slot t)) = slG (w (C.slot t)) := fun t t0 t1 => by
  have hb1 := base_of hC d1.1 d1.2 d2.1 (by omega)
  have hl := len_bd hC
  by_cases e : t = s
  ·subst e; rw [h1]; exact (sl_put (by decide) (by omega) (by omega) (by decide)).2.2.1
  ·rw [wS t t0 t1 e]
 have aN : addD dd n d n = d := if_pos rfl
 have aO : ∀ k : Int, k < n → addD dd n d k = dd k := fun k hk => if_neg (by omega)
 have lN : updB li n true n = true := if_pos rfl
 have lO : ∀ k : Int, k < n → updB li n true k = li k := fun k hk => if_neg (by omega)
 have sne : ∀ k : Int, 0 ≤ k → k < n → li k = true → (dd k).s ≠ s ∧ (dd k).s ∉ F := fun k k0 k1 hk => by
  have := (h.ok k k0 k1 hk).sF; rw [hF] at this; simp only [List.mem_cons, not_or] at this; exact this
 have cs : ∀ k : Int, k < ((n + 1 : Nat) : Int) → k < n ∨ k = n := fun k hk => by omega
 have nxb := h.aw.alo.bd
 refine ⟨haw, ?_, fun t t0 t1 => by rw [wG t t0 t1]; have := h.gen t t0 t1; omega, fun k k0 k1 => ?_, fun k k0 k1 hk => ?_, fun k k0 k1 hk => ?_, fun k l k0 k1 l0 l1 hk hl' hkl => ?_, fun k l k0 k1 l0 l1 hkl => ?_, fun l l0 l1 => ?_, by have := h.nle; omega, fun k k0 k1 => ?_, fun l x l0 l1 x0 x1 xm => ?_, fun l l0 l1 => ?_⟩
 ·have := h.lv.count hC hg hc (class_bd z).2
  exact this.mono (by omega)
 ·rcases cs k k1 with e | rfl
  ·rw [aO k e]; have := h.hd k k0 e; exact ⟨this.1, this.2.1, by omega⟩
  ·rw [aN]; exact ⟨⟨hnew.n, hnew.hok, hnew.s⟩, hnew.cl, by omega⟩
 ·rcases cs k k1 with e | rfl
  ·rw [aO k e]; rw [lO k e] at hk
   have o := h.ok k k0 e hk
   have oi := o.i
   have oj := o.j
   have ou := (aw_ule hC h.aw oj.1 oj.2).2
   have rm := (dd k).rm0
   unfold Do.rm at rm
   refine o.keep ?_ (wS _ o.s.1 o.s.2 (sne k k0 e hk).1) (fw.word _ _ oj.1 oj.2 oi.1 (by omega) (by omega)) ?_ ?_
   ·rw [c1]; exact (sne k k0 e hk).2
   ·rw [c3]; unfold upd; split
    ·rename_i q; rw [q]; omega
    ·exact Int.le_refl _
   ·have olv := o.lv
    rw [c2]; unfold upd; split
    ·rename_i q; rw [q] at olv; omega
    ·exact olv
  ·rw [aN]; exact hnew
 ·rcases cs k k1 with e | rfl
  ·rw [aO k e]; rw [lO k e] at hk
   have := (h.hd k k0 e).1.2.2
   rw [wG _ this.1 this.2]; exact h.dead k k0 e hk
  ·rw [lN] at hk; cases hk
 ·rcases cs k k1 with e | rfl
  ·rw [aO k e]; rw [lO k e] at hk
   rcases cs l l1 with e' | rfl
   ·rw [aO l e']; rw [lO l e'] at hl'
    exact h.nsl k l k0 e l0 e' hk hl' hkl
   ·rw [aN, ds]; exact (sne k k0 e hk).1
  ·rcases cs l l1 with e' | rfl
   ·rw [aO l e', aN, ds]; rw [lO l e'] at hl'
    exact fun q => (sne l l0 e' hl').1 q.symm
   ·exact absurd rfl hkl
 ·rcases cs k k1 with e | rfl
  ·rw [aO k e]
   rcases cs l l1 with e' | rfl
   ·rw [aO l e']; exact h.ns k l k0 e l0 e' hkl
   ·rw [aN, dj, di]
    by_cases q : (dd k).j = j
    ·have := (h.pl k k0 e).1.2.2; rw [q] at this; exact .inr (.inl this)
    ·exact .inl q
  ·rcases cs l l1 with e' | rfl
   ·rw [aO l e', aN, dj, di]
    by_cases q : (dd l).j = j
    ·have := (h.pl l l0 e').1.2.2; rw [q] at this; exact .inr (.inr this)
    ·exact .inl fun q' => q q'.symm
   ·exact absurd rfl hkl
 ·show sumN (part (addD dd n d) (updB li n true) l) n + part (addD dd n d) (updB li n true) l n = _
  rw [sumN_congr (g := part dd li l) fun k k0 k1 => by unfold part; rw [aO k k1, lO k k1]]
  have := h.sm l l0 l1
  unfold part at this ⊢
  rw [aN, lN, c2, dj, dr]
  by_cases q : j = l
  ·subst q; rw [upd_same, if_pos ⟨rfl, rfl⟩]; omega
  ·rw [upd_ne _ _ (fun e => q e.symm), if_neg fun e => q e.2]; omega
 ·rcases cs k k1 with e | rfl
  ·rw [aO k e]
   obtain ⟨⟨p1, p2, p3⟩, p4, p5⟩ := h.pl k k0 e
   have pu := (aw_ule hC h.aw p1.1 (by omega)).2
   have rm := (dd k).rm0
   refine ⟨⟨⟨p1.1, ?_⟩, p2, ?_⟩, by rw [hck _ p1.1 p1.2]; exact p4, ?_⟩
   ·rcases jcase with q | q <;> omega
   ·rw [c3]; unfold upd; split
    ·rename_i q; rw [q] at p3; omega
    ·exact p3
   ·rw [show (dd k).a C = C.base (dd k).j + (dd k).i from rfl, fw.word _ _ p1.1 (by omega) p2 (by omega) (by omega)]; exact p5
  ·rw [aN, dj, di, dr, dz, da, ds, dg, dow]
   refine ⟨⟨⟨d1.1, ?_⟩, d2.1, ?_⟩, hcj, h2⟩
   ·rcases jcase with q | q <;> omega
   ·rw [c3, upd_same]; omega
 · -- each place is told
  by_cases e : l = j
  ·subst e
   rw [hcj] at xm
   rw [c3, upd_same] at x1
   by_cases z1 : x < b.u l
   ·have lnx : l < b.nx := by
     rcases jcase with q | q
     ·exact q.2.2.1
     ·omega
    obtain ⟨k, kb, k2, k3⟩ := h.cov l x l0 lnx x0 z1 (by rw [hcjo lnx]; exact xm)
    exact ⟨k, ⟨kb.1, by omega⟩, by rw [aO k kb.2]; exact k2, by rw [aO k kb.2]; exact k3⟩
   ·have xu : x = b.u l := by
     have um : b.u l % roomOf (classOf z) = 0 := by
      rcases jcase with q | q
      ·have := (h.um l l0 q.2.2.1).1; rwa [hcjo q.2.2.1] at this
      ·rw [q.2.1, Int.zero_emod]
     have e1 : (x - b.u l) % roomOf (classOf z) = 0 := by rw [Int.sub_emod, xm, um]; rfl
     rw [Int.emod_eq_of_lt (by omega) (by omega)] at e1
     omega
    exact ⟨n, ⟨by omega, by omega⟩, by rw [aN]; exact dj, by rw [aN, di]; exact xu.symm⟩
  ·have lnx : l < b.nx := by
    rcases jcase with q | q <;> omega
   rw [c3, upd_ne _ _ e] at x1
   rw [hck l l0 lnx] at xm
   obtain ⟨k, kb, k2, k3⟩ := h.cov l x l0 lnx x0 x1 xm
   exact ⟨k, ⟨kb.1, by omega⟩, by rw [aO k kb.2]; exact k2, by rw [aO k kb.2]; exact k3⟩
 ·by_cases e : l = j
  ·subst e
   rw [c3, upd_same, hcj]
   refine ⟨?_, (class_bd z).2, by omega⟩
   rw [Int.add_emod_right]
   rcases jcase with q | q
   ·have := (h.um l l0 q.2.2.1).1; rwa [hcjo q.2.2.1] at this
   ·rw [q.2.1, Int.zero_emod]
  ·have lnx : l < b.nx := by
    rcases jcase with q | q <;> omega
   rw [c3, upd_ne _ _ e, hck l l0 lnx]; exact h.um l l0 lnx
theorem Do.fr.word (hC : C.ok) {d : Do} {w w' : Int → Int} (h : d.fr C w w') (d0 : 0 ≤ d.j) (d1 : d.j < C.C) (d2 : 0 ≤ d.i) (d3 : d.i + d.z < C.W) (hs : 0 ≤ d.s ∧ d.s < C.S) {j x : Int} (j0 : 0 ≤ j) (j1 : j < C.C) (x0 : 0 ≤ x) (x1 : x < C.W) (hn : ¬ (j = d.j ∧ d.i < x ∧ x ≤ d.i + d.z)) : w' (C.base j + x) = w (C.base j + x) := by
 have hT := hC.T; have hS := hC.S
 have hb := base_ge hC j0 j1 x0
 refine h _ (by unfold Cf.slot; omega) (by omega) (by unfold Cf.slot; omega) (by unfold Cf.chunk; omega) fun ⟨q1, q2⟩ => ?_
 have ea : d.a C = C.base d.j + d.i := rfl
 have e : C.base j + x = C.base d.j + (d.i + (C.base j + x - C.base d.j - d.i)) := by omega
 obtain ⟨e1, e2⟩ := base_inj hC j0 j1 x0 x1 d0 d1 (by omega) (by omega) e
 exact hn ⟨e1, by omega, by omega⟩
theorem Do.fr.chunk (hC : C.ok) {d : Do} {w w' : Int → Int} (h : d.fr C w w') (d0 : 0 ≤ d.j) (d1 : d.j < C.C) (d2 : 0 ≤ d.i) (hs : 0 ≤ d.s ∧ d.s < C.S) {j : Int} (j0 : 0 ≤ j) (j1 : j < C.C) : w' (C.chunk j) = w (C.chunk j) := by
 have hT := hC.T; have hS := hC.S
 have hb := base_ge hC d0 d1 d2
 have ea : d.a C = C.base d.j + d.i := rfl
 exact h _ (by unfold Cf.slot Cf.chunk; omega) (by unfold Cf.chunk; omega) (by unfold Cf.slot Cf.chunk; omega) (by unfold Cf.chunk; omega) (by unfold Cf.chunk; omega)
theorem Do.fr.slot (hC : C.ok) {d : Do} {w w' : Int → Int} (h : d.fr C w w') (d0 : 0 ≤ d.j) (d1 : d.j < C.C) (d2 : 0 ≤ d.i) {t : Int} (t0 : 0 ≤ t) (t1 : t < C.S) (ht : t ≠ d.s) : w' (C.slot t) = w (C.slot t) := by
 have hT := hC.T; have hS := hC.S
 have hb := base_ge hC d0 d1 d2
 have ea : d.a C = C.base d.j + d.i := rfl
 exact h _ (by unfold Cf.slot; omega) (by unfold Cf.slot; omega) (by unfold Cf.slot; omega) (by unfold Cf.slot Cf.chunk; omega) (by unfold Cf.slot; omega)
theorem Dw.drop (hC : C.ok) (hG : C.G = 100) {i : Int} {n : Nat} {dd : Int → Do} {li : Int → Bool} {k : Int} {w w' : Int → Int} {b : Bg} (h : Dw C i n dd li w b) (hi : i ≤ 90) (k0 : 0 ≤ k) (k1 : k < n) (hk : li k = true)
  (fr : (dd k).fr C w w') (sl : w' (C.slot (dd k).s) = (dd k).nx C) (aw : Bg.aw { b.less (dd k).j (roomOf (classOf (dd k).z)) with F := if C.G ≤ (dd k).ge then b.F else (dd k).s :: b.F } C w') :
  Dw C (i + 1) n dd (updB li k false) w' { b.less (dd k).j (roomOf (classOf (dd k).z)) with F := (dd k).s :: b.F } := by
 have o := h.ok k k0 k1 hk
 have hgk := h.gen _ o.s.1 o.s.2
 have hge : slG (w (C.slot (dd k).s)) = (dd k).ge := by rw [o.ws, o.sg]
 rw [if_neg (by omega)] at aw
 have slw : w' (C.slot (dd k).s) = putSlot 0 0 ((dd k).ge + 1) 0 := by rw [sl]; unfold Do.nx; rw [if_neg (by omega)]
 have oj := o.j
 have oi := o.i
 have oz := o.z
 have rmk := (dd k).rm0
 have hub := (aw_ule hC h.aw oj.1 oj.2).2
 have nxb := h.aw.alo.bd
 have hz1 : 1 ≤ (dd k).z := (class_room' o.cl).1.1
 have wS : ∀ t, 0 ≤ t → t < C.S → t ≠ (dd k).s → w' (C.slot t) = w (C.slot t) := fun t t0 t1 ht => fr.slot hC oj.1 oj.2 oi.1 t0 t1 ht
 have wC : ∀ j, 0 ≤ j → j < C.C → w' (C.chunk j) = w (C.chunk j) := fun j j0 j1 => fr.chunk hC oj.1 oj.2 oi.1 o.s j0 j1
 have wG : slG (w' (C.slot (dd k).s)) = (dd k).ge + 1 := by rw [slw]; exact (sl_put' (by decide) (by decide) (by omega)).2.2
 have wH : ∀ l : Int, 0 ≤ l → l < n → w' ((dd l).a C) = w ((dd l).a C) := fun l l0 l1 => by
  obtain ⟨⟨p1, p2, p3⟩, p4, p5⟩ := h.pl l l0 l1
  have pu := (aw_ule hC h.aw p1.1 (by omega)).2
  have rml := (dd l).rm0
  refine fr.word hC oj.1 oj.2 oi.1 (by omega) o.s p1.1 (by omega) p2 (by omega) fun ⟨q1, q2, q3⟩ => ?_
  by_cases e : l = k
  ·subst e; omega
  ·rcases h.ns l k l0 l1 k0 k1 e with q | q | q
   ·exact q q1
   ·omega
   ·unfold Do.rm at q; omega
 have lK : updB li k false k = false := if_pos rfl
 have lO : ∀ l, l ≠ k → updB li k false l = li l := fun l hl => if_neg hl
 have lT : ∀ l, updB li k false l = true → l ≠ k ∧ li l = true := fun l hl => by
  by_cases e : l = k
  ·subst e; rw [lK] at hl; cases hl
  ·rw [lO l e] at hl; exact ⟨e, hl⟩
 have sml : ∀ j, sumN (part dd (updB li k false) j) n = sumN (part dd li j) n - (if (dd k).j = j then (dd k).rm else 0) := fun j => by
  have e : part dd (updB li k false) j = upd (part dd li j) k 0 := by
   funext l
   unfold part upd
   by_cases e : l = k
   ·subst e; rw [lK]; simp
   ·rw [lO l e, if_neg e]
  rw [e, sumN_upd k0 k1]
  have : part dd li j k = if (dd k).j = j then (dd k).rm else 0 := by unfold part; rw [hk]; simp
  rw [this]; omega
 have smk := sumN_le (f := part dd li (dd k).j) (n := n) (fun _ => rm_nn) k0 k1
 have smj := h.sm _ oj.1 oj.2
 have pk : part dd li (dd k).j k = (dd k).rm := by unfold part; rw [hk]; simp
 rw [pk] at smk
 refine ⟨aw, ⟨fun j j0 j1 => ?_⟩, fun t t0 t1 => ?_, fun l l0 l1 => by have := h.hd l l0 l1; exact ⟨this.1, this.2.1, by omega⟩, fun l l0 l1 hl => ?_, fun l l0 l1 hl => ?_, fun l m l0 l1 m0 m1 hl hm hlm => h.nsl l m l0 l1 m0 m1 (lT l hl).2 (lT m hm).2 hlm, h.ns, fun j j0 j1 => ?_, by have := h.nle; omega, fun l l0 l1 => ?_, fun j x j0 j1 x0 x1 xm => ?_, fun j j0 j1 => ?_⟩
 ·have := h.lv.lv j j0 j1
  show 0 ≤ upd b.lv (dd k).j (b.lv (dd k).j - (dd k).rm) j ∧ upd b.lv (dd k).j (b.lv (dd k).j - (dd k).rm) j ≤ _
  unfold upd; split
  ·rename_i q; rw [← q] at smk smj ⊢; omega
  ·omega
 ·by_cases e : t = (dd k).s
  ·rw [e, wG]; omega
  ·rw [wS t t0 t1 e]; have := h.gen t t0 t1; omega
 ·obtain ⟨lk, hl'⟩ := lT l hl
  have ol := h.ok l l0 l1 hl'
  have n1 := h.nsl l k l0 l1 k0 k1 hl' hk lk
  refine ol.keep ?_ (wS _ ol.s.1 ol.s.2 n1) (wH l l0 l1) (Int.le_refl _) ?_
  ·simp only [List.mem_cons, not_or]; exact ⟨n1, ol.sF⟩
  ·show _ ≤ upd b.lv (dd k).j (b.lv (dd k).j - (dd k).rm) (dd l).j
   unfold upd; split
   ·rename_i q
    have s1 := sumN_le (f := part dd (updB li k false) (dd k).j) (n := n) (fun _ => rm_nn) l0 l1
    rw [sml, if_pos rfl] at s1
    have : part dd (updB li k false) (dd k).j l = (dd l).rm := by unfold part; rw [hl, q]; simp
    rw [this] at s1
    unfold Do.rm at *
    omega
   ·exact ol.lv
 ·by_cases e : l = k
  ·subst e; rw [wG]; omega
  ·rw [lO l e] at hl
   have q := h.dead l l0 l1 hl
   have hs := (h.hd l l0 l1).1.2.2
   by_cases e' : (dd l).s = (dd k).s
   ·rw [e', wG]; rw [e'] at q; omega
   ·rw [wS _ hs.1 hs.2 e']; exact q
 ·show _ = upd b.lv (dd k).j (b.lv (dd k).j - (dd k).rm) j
  rw [sml]
  have := h.sm j j0 j1
  by_cases q : (dd k).j = j
  ·subst q; rw [upd_same, if_pos rfl]; omega
  ·rw [upd_ne _ _ fun e => q e.symm, if_neg q]; omega
 ·obtain ⟨⟨p1, p2, p3⟩, p4, p5⟩ := h.pl l l0 l1
  exact ⟨⟨p1, p2, p3⟩, by rw [wC _ p1.1 (by omega)]; exact p4, by rw [wH l l0 l1]; exact p5⟩
 ·have j1' : j < b.nx := j1
  rw [wC j j0 (by omega)] at xm
  exact h.cov j x j0 j1 x0 x1 xm
 ·have j1' : j < b.nx := j1
  rw [wC j j0 (by omega)]
  exact h.um j j0 j1
end Go.Fl
