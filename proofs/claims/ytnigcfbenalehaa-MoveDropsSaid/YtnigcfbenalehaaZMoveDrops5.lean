/- What the claim leans on, part 5: own readings of the program's functions, what they come to, laws of them. No condition. -/
import Derived.Test.YtnigcfbenalehaaZMoveDrops4
namespace Go.Fl
open Go
set_option linter.unusedVariables false
set_option linter.unusedSimpArgs false
variable {N : Nm} {A B : Ar} {σ : Mem} {K : Value → Mem → Prop} {C : Cf} {who : Int}
theorem c_Ac2 (hN : N.ok) (hC : C.ok) (hA : isA N A σ) {p : Nat} {a : Ac} (hp : σ.get p = some ⟨a.l, true⟩) (hd : p ∉ N.l) (hw : ∀ i, 0 ≤ A.w i ∧ A.w i < 18446744073709551616) (hf : a.fit C A) (h : a.pc = 2)
  (k0 : (a.step C who A).2.1.pc ≠ 4 → ∀ τ, isA N (a.step C who A).2.2 τ → τ.get p = some ⟨(a.step C who A).2.1.l, true⟩ → Keep (p :: N.l) σ τ → K (.bool (a.step C who A).1) τ)
  (k1 : (a.step C who A).2.1.pc = 4 → ∀ q τ, σ.get q = none → q ≠ p → isA N (a.step C who A).2.2 τ → τ.get p = some ⟨({ (a.step C who A).2.1 with help := some q } : Ac).l, true⟩ → τ.get q = some ⟨(Hl.new a.hs a.w a.size).l, true⟩ → Keep (p :: N.l) σ τ → K (.bool (a.step C who A).1) τ) :
  s_ab [.pointer (some ⟨p, 0, none⟩), N.env C who] K σ := by
 have hbd := hf.bd
 have h2 := hf.a2 (.inl h)
 have h3 := hf.w
 have hwa := hw a.at'
 rw [hA.obj hp]
 unfold Ac.step at k0 k1
 rw [if_neg (by omega), if_neg (by omega), if_pos h] at k0 k1
 simp only [s_ab, w_ab, ruS, ruL, ruE, Nat.reduceAdd, reduceIte, Int.reduceLT, Int.reduceLE, Int.reduceEq, Int.reduceNeg, Int.reduceAdd, Int.reduceSub, Nat.reduceLeDiff, Nat.reduceLT]
 rw [ldAx hd (show sub _ 8 1 false = some (.int .i64 a.pc) from rfl)]
 simp only [h, ruS, ruL, ruE, Nat.reduceAdd, reduceIte, Int.reduceLT, Int.reduceLE, Int.reduceEq, Int.reduceNeg, Int.reduceAdd, Int.reduceSub, Nat.reduceLeDiff, Nat.reduceLT]
 rw [c_Aat hd h3 (by omega), c_Load hN h2.1 h2.2, stAx { a with cell := A.w a.at' } hd rfl rfl (by decide) rfl, c_Now, c_Anext (a := { a with cell := A.w a.at' }) hd h3 hwa]
 rw [stAx { a with cell := A.w a.at', rd := ((A.by who).load a.at').s } hd rfl rfl (by decide) rfl]
 rw [stAx { a with cell := A.w a.at', rd := ((A.by who).load a.at').s, pc := ({ a with cell := A.w a.at' } : Ac).nxt } hd rfl rfl (by decide) rfl]
 rw [ldAx (a := { a with cell := A.w a.at', rd := ((A.by who).load a.at').s, pc := ({ a with cell := A.w a.at' } : Ac).nxt }) hd (show sub _ 8 1 false = some (.int .i64 ({ a with cell := A.w a.at' } : Ac).nxt) from rfl)]
 by_cases e : ({ a with cell := A.w a.at' } : Ac).nxt = 4
 ·replace k1 := k1 e
  simp only [e, ruS, ruL, ruE, Nat.reduceAdd, reduceIte, Int.reduceLT, Int.reduceLE, Int.reduceEq, Int.reduceNeg, Int.reduceAdd, Int.reduceSub, Nat.reduceLeDiff, Nat.reduceLT]
  rw [e] at k1
  rw [ldAx (a := { a with cell := A.w a.at', rd := ((A.by who).load a.at').s, pc := 4 }) hd (show sub _ 6 1 false = some (.int .i64 a.hs) from rfl), ldAx (a := { a with cell := A.w a.at', rd := ((A.by who).load a.at').s, pc := 4 }) hd (show sub _ 9 1 false = some (.int .u64 a.w) from rfl),
   ldAx (a := { a with cell := A.w a.at', rd := ((A.by who).load a.at').s, pc := 4 }) hd (show sub _ 13 1 false = some (.int .i64 a.size) from rfl)]
  refine behind (K := fun _ σ => s_au [.int .i64 a.hs, .int .u64 a.w, .int .i64 a.size] _ σ) (v := undef) hN hd fun υ u1 u2 u3 => ?_
  refine c_NewHelp fun id ω hid gid x => ?_
  have hx1 := u1.ext x
  have hx2 := x _ _ u2
  have ip : id ≠ p := by rintro rfl; rw [u2] at hid; cases hid
  have inn := u1.new hid
  have ids : σ.get id = none := by
   cases e : σ.get id with
   | none => rfl
   | some b => rw [u3 id b e (by simp only [List.mem_cons, not_or]; exact ⟨ip, inn⟩)] at hid; cases hid
  rw [hx1.obj hx2, stAx { a with cell := A.w a.at', rd := ((A.by who).load a.at').s, pc := 4, help := some id } hd rfl rfl (by decide) rfl]
  simp only [w_ab_j1, w_ab_j1b, ruS, ruL, ruE, Nat.reduceAdd, reduceIte, Int.reduceLT, Int.reduceLE, Int.reduceEq, Int.reduceNeg, Int.reduceAdd, Int.reduceSub, Nat.reduceLeDiff, Nat.reduceLT]
  refine behind hN hd fun ρ r1 r2 r3 => k1 id ρ ids ip r1 r2 ?_ ((u3.trans x.keep).trans r3)
  exact r3 id _ gid (by simp only [List.mem_cons, not_or]; exact ⟨ip, inn⟩)
 ·replace k0 := k0 e
  simp only [e, w_ab_j1, w_ab_j1b, ruS, ruL, ruE, Nat.reduceAdd, reduceIte, Int.reduceLT, Int.reduceLE, Int.reduceEq, Int.reduceNeg, Int.reduceAdd, Int.reduceSub, Nat.reduceLeDiff, Nat.reduceLT]
  exact behind hN hd k0
theorem c_Ac3 (hN : N.ok) (hC : C.ok) (hA : isA N A σ) {p : Nat} {a : Ac} (hp : σ.get p = some ⟨a.l, true⟩) (hd : p ∉ N.l) (hn : C.len ≤ A.n) (hf : a.fit C A) (h : a.pc = 3)
  (hk : ∀ τ, isA N (a.step C who A).2.2 τ → τ.get p = some ⟨(a.step C who A).2.1.l, true⟩ → Keep (p :: N.l) σ τ → K (.bool (a.step C who A).1) τ) :
  s_ab [.pointer (some ⟨p, 0, none⟩), N.env C who] K σ := by
 have hT := hC.T; have hS := hC.S; have hC3 := hC.C; have hl := len_bd hC
 have hch : C.chunk C.C = 6 + C.T + 2 * C.S + 3 * C.C := rfl
 have h3 := hf.w
 have h2 := hf.hs
 have hV := slV_bd a.w
 have hsb : 0 ≤ C.slot a.hs ∧ C.slot a.hs < A.n := by unfold Cf.slot; omega
 have g4 : ∀ (k : Nat) (x y z w x' y' z' w' : Int), gStore 4 [.pointer (some ⟨k, 0, some 0⟩), .agg #[.int .i64 x, .int .i64 y, .int .i64 z, .int .i64 w]] [.int .i64 x', .int .i64 y', .int .i64 z', .int .i64 w'] = some [.int .i64 x, .int .i64 y, .int .i64 z, .int .i64 w] := fun _ _ _ _ _ _ _ _ _ => rfl
 have g0 : ∀ (k : Nat) (v x' y' z' w' : Int), gStore 1 [.pointer (some ⟨k, 0, some 0⟩), .int .i64 v] [.int .i64 x', .int .i64 y', .int .i64 z', .int .i64 w'] = some [.int .i64 v, .int .i64 y', .int .i64 z', .int .i64 w'] := fun _ _ _ _ _ _ => rfl
 have g3 : ∀ (k : Nat) (v x' y' z' w' : Int), gStore 1 [.pointer (some ⟨k, 3, some 0⟩), .int .i64 v] [.int .i64 x', .int .i64 y', .int .i64 z', .int .i64 w'] = some [.int .i64 x', .int .i64 y', .int .i64 z', .int .i64 v] := fun _ _ _ _ _ _ => rfl
 rw [hA.obj hp]
 unfold Ac.step at hk
 rw [if_neg (by omega), if_neg (by omega), if_neg (by omega), if_pos h] at hk
 simp only [s_ab, w_ab, ruS, ruL, ruE, Nat.reduceAdd, reduceIte, Int.reduceLT, Int.reduceLE, Int.reduceEq, Int.reduceNeg, Int.reduceAdd, Int.reduceSub, Nat.reduceLeDiff, Nat.reduceLT]
 rw [ldAx hd (show sub _ 8 1 false = some (.int .i64 a.pc) from rfl)]
 simp only [h, ruS, ruL, ruE, Nat.reduceAdd, reduceIte, Int.reduceLT, Int.reduceLE, Int.reduceEq, Int.reduceNeg, Int.reduceAdd, Int.reduceSub, Nat.reduceLeDiff, Nat.reduceLT]
 rw [ldAx hd (show sub _ 9 1 false = some (.int .u64 a.w) from rfl), c_wSlot h3.1 h3.2]
 simp only [g4, g0, g3, ruS, ruL, ruE, Nat.reduceAdd, reduceIte, Int.reduceLT, Int.reduceLE, Int.reduceEq, Int.reduceNeg, Int.reduceAdd, Int.reduceSub, Nat.reduceLeDiff, Nat.reduceLT]
 rw [IntWalk.i64_in (slV a.w + 1) (by omega)]
 rw [ldAx hd (show sub _ 6 1 false = some (.int .i64 a.hs) from rfl), c_Slot hC h2.1 (by omega), ldAx hd (show sub _ 9 1 false = some (.int .u64 a.w) from rfl)]
 simp only [sub4, ruS, ruL, ruE, Nat.reduceAdd, reduceIte, Int.reduceLT, Int.reduceLE, Int.reduceEq, Int.reduceNeg, Int.reduceAdd, Int.reduceSub, Nat.reduceLeDiff, Nat.reduceLT]
 rw [c_PutSlot, c_Cas hN hsb.1 hsb.2, stAx { a with pc := 0 } hd rfl rfl (by decide) rfl]
 simp only [w_ab_j1, w_ab_j1b, ruS, ruL, ruE, Nat.reduceAdd, reduceIte, Int.reduceLT, Int.reduceLE, Int.reduceEq, Int.reduceNeg, Int.reduceAdd, Int.reduceSub, Nat.reduceLeDiff, Nat.reduceLT]
 exact behind hN hd hk
theorem c_Ac4 (hN : N.ok) (hC : C.ok) (hA : isA N A σ) {p q : Nat} {a : Ac} {t : Hl} (hp : σ.get p = some ⟨a.l, true⟩) (hd : p ∉ N.l) (hq : σ.get q = some ⟨[] ++ t.l ++ [], true⟩) (hqd : q ∉ N.l) (hqp : q ≠ p) (hw : ∀ i, 0 ≤ A.w i ∧ A.w i < 18446744073709551616) (hn : C.len ≤ A.n)
  (h : a.pc = 4) (ha : a.help = some q) (hf : t.fit C)
  (k0 : (t.step C who A).1 = false → ∀ τ, isA N (t.step C who A).2.2 τ → τ.get p = some ⟨a.l, true⟩ → τ.get q = some ⟨[] ++ (t.step C who A).2.1.l ++ [], true⟩ → Keep (q :: p :: N.l) σ τ → K (.bool false) τ)
  (k2 : (t.step C who A).1 = true → ∀ τ, isA N (t.step C who A).2.2 τ → τ.get p = some ⟨({ a with pc := 0 } : Ac).l, true⟩ → Keep (q :: p :: N.l) σ τ → K (.bool false) τ) :
  s_ab [.pointer (some ⟨p, 0, none⟩), N.env C who] K σ := by
 have hpL : ∀ i ∈ p :: N.l, i ∈ q :: p :: N.l := fun i hi => List.mem_cons_of_mem _ hi
 have hqL : ∀ i ∈ q :: N.l, i ∈ q :: p :: N.l := fun i hi => by rcases List.mem_cons.1 hi with rfl | hi <;> simp [*]
 rw [hA.obj hp]
 simp only [s_ab, w_ab, ruS, ruL, ruE, Nat.reduceAdd, reduceIte, Int.reduceLT, Int.reduceLE, Int.reduceEq, Int.reduceNeg, Int.reduceAdd, Int.reduceSub, Nat.reduceLeDiff, Nat.reduceLT]
 rw [ldAx hd (show sub _ 8 1 false = some (.int .i64 a.pc) from rfl)]
 simp only [h, ruS, ruL, ruE, Nat.reduceAdd, reduceIte, Int.reduceLT, Int.reduceLE, Int.reduceEq, Int.reduceNeg, Int.reduceAdd, Int.reduceSub, Nat.reduceLeDiff, Nat.reduceLT]
 rw [ldAx hd (show sub _ 14 1 false = some (obP a.help) from rfl), ha, obP_s, ← hA.obj hp]
 refine c_Help_Step hN hC hA (t := t) (pre := []) (post := []) hq hqd hw hn hf fun τ hA' hq' hK => ?_
 have hp' : τ.get p = some ⟨a.l, true⟩ := hK.get hp (by simp only [List.mem_cons, not_or]; exact ⟨fun e => hqp e.symm, hd⟩)
 have hK2 := hK.mono hqL
 generalize t.step C who A = r at *
 obtain ⟨d, t', A'⟩ := r
 dsimp only at *
 cases d with
 | false => simp only [w_ab_j1, w_ab_j1b, ruS, ruL, ruE, Nat.reduceAdd, reduceIte, Int.reduceLT, Int.reduceLE, Int.reduceEq, Int.reduceNeg, Int.reduceAdd, Int.reduceSub, Nat.reduceLeDiff, Nat.reduceLT]; exact k0 rfl τ hA' hp' hq' hK2
 | true =>
  simp only [ruS, ruL, ruE, Nat.reduceAdd, reduceIte, Int.reduceLT, Int.reduceLE, Int.reduceEq, Int.reduceNeg, Int.reduceAdd, Int.reduceSub, Nat.reduceLeDiff, Nat.reduceLT]
  rw [hA'.obj hp', stAx { a with pc := 0 } hd rfl rfl (by decide) rfl]
  simp only [w_ab_j1, w_ab_j1b, ruS, ruL, ruE, Nat.reduceAdd, reduceIte, Int.reduceLT, Int.reduceLE, Int.reduceEq, Int.reduceNeg, Int.reduceAdd, Int.reduceSub, Nat.reduceLeDiff, Nat.reduceLT]
  exact behind hN hd fun υ u1 u2 u3 => k2 rfl υ u1 u2 (hK2.trans (u3.mono hpL))
theorem c_Ac5 (hN : N.ok) (hC : C.ok) (hA : isA N A σ) {p : Nat} {a : Ac} (hp : σ.get p = some ⟨a.l, true⟩) (hd : p ∉ N.l) (hf : a.fit C A) (h : a.pc = 5)
  (hk : ∀ τ, isA N (a.step C who A).2.2 τ → τ.get p = some ⟨(a.step C who A).2.1.l, true⟩ → Keep (p :: N.l) σ τ → K (.bool (a.step C who A).1) τ) :
  s_ab [.pointer (some ⟨p, 0, none⟩), N.env C who] K σ := by
 have hbd := hf.bd
 have h2 := hf.a2 (.inr h)
 have h3 := hf.w
 have h4 := hf.cell
 have b3 : ∀ (x : Int) (K : Value → Prop), xF (fBuild [(0, 1), (1, 1), (2, 1)] [.int .i64 0, .bool false, .int .i64 0] [0]) [.int .i64 x] K = K (.agg #[.int .i64 x, .bool false, .int .i64 0]) := fun _ K => nr rfl
 rw [hA.obj hp]
 unfold Ac.step at hk
 rw [if_neg (by omega), if_neg (by omega), if_neg (by omega), if_neg (by omega), if_pos h] at hk
 simp only [s_ab, w_ab, ruS, ruL, ruE, Nat.reduceAdd, reduceIte, Int.reduceLT, Int.reduceLE, Int.reduceEq, Int.reduceNeg, Int.reduceAdd, Int.reduceSub, Nat.reduceLeDiff, Nat.reduceLT]
 rw [ldAx hd (show sub _ 8 1 false = some (.int .i64 a.pc) from rfl)]
 simp only [h, ruS, ruL, ruE, Nat.reduceAdd, reduceIte, Int.reduceLT, Int.reduceLE, Int.reduceEq, Int.reduceNeg, Int.reduceAdd, Int.reduceSub, Nat.reduceLeDiff, Nat.reduceLT]
 rw [stAx { a with pc := 0 } hd rfl rfl (by decide) rfl, c_Aat (a := { a with pc := 0 }) hd h3 (by show 0 ≤ a.at' ∧ a.at' < _; omega)]
 rw [ldAx (a := { a with pc := 0 }) hd (show sub _ 10 1 false = some (.int .u64 a.cell) from rfl), ldAx (a := { a with pc := 0 }) hd (show sub _ 3 1 false = some (.int .i64 a.v) from rfl), b3, c_PutCell]
 rw [show ({ a with pc := 0 } : Ac).at' = a.at' from rfl, c_Cas hN h2.1 h2.2]
 by_cases e : A.w a.at' = a.cell
 ·rw [if_pos e] at hk
  simp only [e, ruS, ruL, ruE, Nat.reduceAdd, reduceIte, Int.reduceLT, Int.reduceLE, Int.reduceEq, Int.reduceNeg, Int.reduceAdd, Int.reduceSub, Nat.reduceLeDiff, Nat.reduceLT]
  rw [ldAx (a := { a with pc := 0 }) hd (show sub _ 10 1 false = some (.int .u64 a.cell) from rfl), c_wCell h4.1 h4.2]
  simp only [xFldV, List.toList_toArray, ruS, ruL, ruE, Nat.reduceAdd, reduceIte, Int.reduceLT, Int.reduceLE, Int.reduceEq, Int.reduceNeg, Int.reduceAdd, Int.reduceSub, Nat.reduceLeDiff, Nat.reduceLT]
  rw [c_Now, c_Aend hd]
  exact behind hN hd hk
 ·rw [if_neg e] at hk
  simp only [e, w_ab_j1, w_ab_j1b, ruS, ruL, ruE, Nat.reduceAdd, reduceIte, Int.reduceLT, Int.reduceLE, Int.reduceEq, Int.reduceNeg, Int.reduceAdd, Int.reduceSub, Nat.reduceLeDiff, Nat.reduceLT]
  exact behind hN hd hk
theorem c_Ac6 (hN : N.ok) (hC : C.ok) (hA : isA N A σ) {p : Nat} {a : Ac} (hp : σ.get p = some ⟨a.l, true⟩) (hd : p ∉ N.l) (hw : ∀ i, 0 ≤ A.w i ∧ A.w i < 18446744073709551616) (hn : C.len ≤ A.n) (hf : a.fit C A) (h : a.pc = 6)
  (hk : ∀ τ, isA N (a.step C who A).2.2 τ → τ.get p = some ⟨(a.step C who A).2.1.l, true⟩ → Keep (p :: N.l) σ τ → K (.bool (a.step C who A).1) τ) :
  s_ab [.pointer (some ⟨p, 0, none⟩), N.env C who] K σ := by
 have hT := hC.T; have hS := hC.S; have hC3 := hC.C; have hl := len_bd hC
 have hch : C.chunk C.C = 6 + C.T + 2 * C.S + 3 * C.C := rfl
 have h2 := hf.hs
 have h3 := hf.w
 have h4 := hf.cell
 have hsb : 0 ≤ C.slot a.hs ∧ C.slot a.hs < A.n := by unfold Cf.slot; omega
 have hwa := hw (C.slot a.hs)
 have g4 : ∀ (k : Nat) (x y z w x' y' z' w' : Int), gStore 4 [.pointer (some ⟨k, 0, some 0⟩), .agg #[.int .i64 x, .int .i64 y, .int .i64 z, .int .i64 w]] [.int .i64 x', .int .i64 y', .int .i64 z', .int .i64 w'] = some [.int .i64 x, .int .i64 y, .int .i64 z, .int .i64 w] := fun _ _ _ _ _ _ _ _ _ => rfl
 rw [hA.obj hp]
 unfold Ac.step at hk
 rw [if_neg (by omega), if_neg (by omega), if_neg (by omega), if_neg (by omega), if_neg (by omega)] at hk
 simp only [s_ab, w_ab, ruS, ruL, ruE, Nat.reduceAdd, reduceIte, Int.reduceLT, Int.reduceLE, Int.reduceEq, Int.reduceNeg, Int.reduceAdd, Int.reduceSub, Nat.reduceLeDiff, Nat.reduceLT]
 rw [ldAx hd (show sub _ 8 1 false = some (.int .i64 a.pc) from rfl)]
 simp only [h, s_ad, w_ad, ruS, ruL, ruE, Nat.reduceAdd, reduceIte, Int.reduceLT, Int.reduceLE, Int.reduceEq, Int.reduceNeg, Int.reduceAdd, Int.reduceSub, Nat.reduceLeDiff, Nat.reduceLT]
 rw [ldAx hd (show sub _ 6 1 false = some (.int .i64 a.hs) from rfl), c_Slot hC h2.1 (by omega), c_Load hN hsb.1 hsb.2, c_wSlot hwa.1 hwa.2]
 simp only [g4, ruS, ruL, ruE, Nat.reduceAdd, reduceIte, Int.reduceLT, Int.reduceLE, Int.reduceEq, Int.reduceNeg, Int.reduceAdd, Int.reduceSub, Nat.reduceLeDiff, Nat.reduceLT]
 rw [ldAx hd (show sub _ 10 1 false = some (.int .u64 a.cell) from rfl), c_wCell h4.1 h4.2]
 simp only [xFldV, List.toList_toArray, sub4, ruS, ruL, ruE, Nat.reduceAdd, reduceIte, Int.reduceLT, Int.reduceLE, Int.reduceEq, Int.reduceNeg, Int.reduceAdd, Int.reduceSub, Nat.reduceLeDiff, Nat.reduceLT]
 rw [ldAx hd (show sub _ 6 2 true = some (.agg #[.int .i64 a.hs, .int .i64 a.hg]) from rfl), c_Live]
 by_cases hl' : lives (A.w (C.slot a.hs)) a.hg
 ·have e : decide ((slS (A.w (C.slot a.hs)) = 1 ∨ slS (A.w (C.slot a.hs)) = 2 ∨ slS (A.w (C.slot a.hs)) = 4) ∧ slG (A.w (C.slot a.hs)) = a.hg) = true := decide_eq_true hl'
  rw [if_pos hl'] at hk
  simp only [e, ruS, ruL, ruE, Nat.reduceAdd, reduceIte, Int.reduceLT, Int.reduceLE, Int.reduceEq, Int.reduceNeg, Int.reduceAdd, Int.reduceSub, Nat.reduceLeDiff, Nat.reduceLT]
  rw [ldAx hd (show sub _ 9 1 false = some (.int .u64 a.w) from rfl), c_wSlot h3.1 h3.2]
  simp only [xFldV, List.toList_toArray, ruS, ruL, ruE, Nat.reduceAdd, reduceIte, Int.reduceLT, Int.reduceLE, Int.reduceEq, Int.reduceNeg, Int.reduceAdd, Int.reduceSub, Nat.reduceLeDiff, Nat.reduceLT]
  by_cases c1 : slA (A.w (C.slot a.hs)) = slA a.w
  ·rw [if_pos c1] at hk
   simp only [c1, ne_eq, not_true_eq_false, ruS, ruL, ruE, Nat.reduceAdd, reduceIte, Int.reduceLT, Int.reduceLE, Int.reduceEq, Int.reduceNeg, Int.reduceAdd, Int.reduceSub, Nat.reduceLeDiff, Nat.reduceLT]
   rw [ldAx hd (show sub _ 0 1 false = some (.int .i64 a.kd) from rfl)]
   by_cases c2 : a.kd = 3
   ·rw [if_pos c2] at hk
    simp only [c2, ruS, ruL, ruE, Nat.reduceAdd, reduceIte, Int.reduceLT, Int.reduceLE, Int.reduceEq, Int.reduceNeg, Int.reduceAdd, Int.reduceSub, Nat.reduceLeDiff, Nat.reduceLT]
    rw [ldAx hd (show sub _ 12 1 false = some (.int .i64 a.rd) from rfl), c_Aend hd]
    exact behind hN hd hk
   ·rw [if_neg c2] at hk
    simp only [c2, ruS, ruL, ruE, Nat.reduceAdd, reduceIte, Int.reduceLT, Int.reduceLE, Int.reduceEq, Int.reduceNeg, Int.reduceAdd, Int.reduceSub, Nat.reduceLeDiff, Nat.reduceLT]
    rw [ldAx hd (show sub _ 12 1 false = some (.int .i64 a.rd) from rfl), c_Aend hd]
    exact behind hN hd hk
  ·rw [if_neg c1] at hk
   simp only [c1, ne_eq, not_false_eq_true, ruS, ruL, ruE, Nat.reduceAdd, reduceIte, Int.reduceLT, Int.reduceLE, Int.reduceEq, Int.reduceNeg, Int.reduceAdd, Int.reduceSub, Nat.reduceLeDiff, Nat.reduceLT]
   rw [stAx { a with pc := 0 } hd rfl rfl (by decide) rfl]
   exact behind hN hd hk
 ·have e : decide ((slS (A.w (C.slot a.hs)) = 1 ∨ slS (A.w (C.slot a.hs)) = 2 ∨ slS (A.w (C.slot a.hs)) = 4) ∧ slG (A.w (C.slot a.hs)) = a.hg) = false := decide_eq_false hl'
  rw [if_neg hl'] at hk
  simp only [e, ruS, ruL, ruE, Nat.reduceAdd, reduceIte, Int.reduceLT, Int.reduceLE, Int.reduceEq, Int.reduceNeg, Int.reduceAdd, Int.reduceSub, Nat.reduceLeDiff, Nat.reduceLT]
  rw [c_Now, c_Aend hd]
  exact behind hN hd hk
end Go.Fl
namespace Go.Fl
open Go
set_option linter.unusedVariables false
set_option linter.unusedSimpArgs false
variable {N : Nm} {A B : Ar} {σ : Mem} {K : Value → Mem → Prop} {C : Cf} {who : Int}
structure Ak where
 a : Ac
 h : Hl
def Ak.new (kd n ix v old : Int) (own : Bool) : Ak := ⟨Ac.new kd n ix v old own, Hl.new 0 0 0⟩
def Ak.step (C : Cf) (who : Int) (A : Ar) (m : Ak) : Bool × Ak × Ar :=
 if m.a.pc = 4 then
  if (m.h.step C who A).1 = true then (false, { m with a := { m.a with pc := 0 } }, (m.h.step C who A).2.2) else (false, { m with h := (m.h.step C who A).2.1 }, (m.h.step C who A).2.2)
 else ((m.a.step C who A).1, ⟨(m.a.step C who A).2.1, if m.a.pc = 2 then Hl.new m.a.hs m.a.w m.a.size else m.h⟩, (m.a.step C who A).2.2)
structure Ak.fit (C : Cf) (A : Ar) (m : Ak) : Prop where
 a : m.a.fit C A
 h : m.a.pc = 4 → m.h.fit C
def Ac.wh (a : Ac) (x : Option Nat) : Ac := { a with help := x }
theorem Ac.step_help {a : Ac} {x : Option Nat} : (a.wh x).step C who A = ((a.step C who A).1, (a.step C who A).2.1.wh x, (a.step C who A).2.2) := by
 obtain ⟨kd, n, ix, v, old, own, hs, hg, pc, w, cell, seen, rd, size, help, oE, oH, oV, oS⟩ := a
 unfold Ac.step Ac.wh Ac.at' Ac.fin Ac.nxt
 dsimp only
 repeat' split
 all_goals rfl
theorem Ac.step_pc {a : Ac} (h2 : a.pc ≠ 2) (h4 : a.pc ≠ 4) : (a.step C who A).2.1.pc ≠ 4 := by
 unfold Ac.step Ac.fin
 repeat' split
 all_goals (dsimp only; omega)
structure AOb (N : Nm) (p : Nat) (O : List Nat) (m : Ak) (τ : Mem) : Prop where
 obj : ∃ x, τ.get p = some ⟨(m.a.wh x).l, true⟩ ∧ (m.a.pc = 4 → ∃ q, x = some q ∧ q ∈ O ∧ q ≠ p ∧ τ.get q = some ⟨[] ++ m.h.l ++ [], true⟩)
 own : ∀ i ∈ O, i ∉ N.l
 p : p ∈ O
theorem c_Acc_Step (hN : N.ok) (hC : C.ok) (hA : isA N A σ) {p : Nat} {O : List Nat} {m : Ak} (hO : AOb N p O m σ) (hw : ∀ i, 0 ≤ A.w i ∧ A.w i < 18446744073709551616) (hn : C.len ≤ A.n) (hf : m.fit C A)
  (hk : ∀ O' τ, (∀ i ∈ O', i ∈ O ∨ σ.get i = none) → isA N (m.step C who A).2.2 τ → AOb N p O' (m.step C who A).2.1 τ → Keep (O ++ N.l) σ τ → K (.bool (m.step C who A).1) τ) : s_ab [.pointer (some ⟨p, 0, none⟩), N.env C who] K σ := by
 obtain ⟨⟨x, hp, h3⟩, own, pO⟩ := hO
 have hd := own p pO
 have k1 : ∀ {τ : Mem}, Keep (p :: N.l) σ τ → Keep (O ++ N.l) σ τ := fun k => k.mono fun i hi => by
  rcases List.mem_cons.1 hi with rfl | hi
  ·exact List.mem_append_left _ pO
  ·exact List.mem_append_right _ hi
 have same : ∀ i ∈ O, i ∈ O ∨ σ.get i = none := fun i hi => .inl hi
 have cons : ∀ {q : Nat}, σ.get q = none → ∀ i ∈ q :: O, i ∈ O ∨ σ.get i = none := fun h i hi => by rcases List.mem_cons.1 hi with rfl | hi; exact .inr h; exact .inl hi
 have ownc : ∀ {q : Nat}, q ∉ N.l → ∀ i ∈ q :: O, i ∉ N.l := fun h i hi => by rcases List.mem_cons.1 hi with rfl | hi; exact h; exact own i hi
 have hpc := hf.a.pc
 have hfx : (m.a.wh x).fit C A := ⟨hf.a.pc, hf.a.n, hf.a.hs, hf.a.w, hf.a.cell, hf.a.a1, hf.a.a2, hf.a.bd⟩
 have hpx : (m.a.wh x).pc = m.a.pc := rfl
 by_cases c4 : m.a.pc = 4
 ·unfold Ak.step at hk
  rw [if_pos c4] at hk
  obtain ⟨q, rfl, qO, qp, gq⟩ := h3 c4
  have k2 : ∀ {τ : Mem}, Keep (q :: p :: N.l) σ τ → Keep (O ++ N.l) σ τ := fun k => k.mono fun i hi => by
   rcases List.mem_cons.1 hi with rfl | hi
   ·exact List.mem_append_left _ qO
   ·rcases List.mem_cons.1 hi with rfl | hi
    ·exact List.mem_append_left _ pO
    ·exact List.mem_append_right _ hi
  refine c_Ac4 hN hC hA (a := m.a.wh (some q)) (t := m.h) hp hd gq (own q qO) qp hw hn c4 rfl (hf.h c4) (fun d τ u1 u2 u3 u4 => ?_) (fun d τ u1 u2 u3 => ?_)
  ·rw [if_neg (by rw [d]; decide)] at hk
   exact hk O τ same u1 ⟨⟨some q, u2, fun _ => ⟨q, rfl, qO, qp, u3⟩⟩, own, pO⟩ (k2 u4)
  ·rw [if_pos d] at hk
   exact hk O τ same u1 ⟨⟨some q, u2, fun e => by dsimp only at e; omega⟩, own, pO⟩ (k2 u3)
 unfold Ak.step at hk
 rw [if_neg c4] at hk
 by_cases c2 : m.a.pc = 2
 ·rw [if_pos c2] at hk
  have e := Ac.step_help (C := C) (who := who) (A := A) (a := m.a) (x := x)
  refine c_Ac2 hN hC hA (a := m.a.wh x) (who := who) hp hd hw hfx c2 ?_ ?_
  ·rw [e]
   intro c τ u1 u2 u3
   exact hk O τ same u1 ⟨⟨x, u2, fun q => absurd q c⟩, own, pO⟩ (k1 u3)
  ·rw [e]
   intro c q τ q1 q2 u1 u2 u3 u4
   exact hk (q :: O) τ (cons q1) u1 ⟨⟨some q, u2, fun _ => ⟨q, rfl, List.mem_cons_self .., q2, by rw [List.nil_append, List.append_nil]; exact u3⟩⟩, ownc (hA.new q1), List.mem_cons_of_mem _ pO⟩ (k1 u4)
 rw [if_neg c2] at hk
 have np := Ac.step_pc (C := C) (who := who) (A := A) c2 c4
 have hk' : ∀ τ, isA N ((m.a.wh x).step C who A).2.2 τ → τ.get p = some ⟨((m.a.wh x).step C who A).2.1.l, true⟩ → Keep (p :: N.l) σ τ → K (.bool ((m.a.wh x).step C who A).1) τ := by
  rw [Ac.step_help]
  intro τ u1 u2 u3
  exact hk O τ same u1 ⟨⟨x, u2, fun q => absurd q np⟩, own, pO⟩ (k1 u3)
 rcases (show m.a.pc = 0 ∨ m.a.pc = 1 ∨ m.a.pc = 3 ∨ m.a.pc = 5 ∨ m.a.pc = 6 by omega) with c | c | c | c | c
 ·exact c_Ac0 hN hC hA hp hd hw hn hfx c hk'
 ·exact c_Ac1 hN hC hA hp hd hw hfx c hk'
 ·exact c_Ac3 hN hC hA hp hd hn hfx c hk'
 ·exact c_Ac5 hN hC hA hp hd hfx c hk'
 ·exact c_Ac6 hN hC hA hp hd hw hn hfx c hk'
theorem AOb.done {p : Nat} {O : List Nat} {m : Ak} (hA : isA N A σ) (h : AOb N p O m σ) (hk : K (.agg #[.int .i64 m.a.oE, .int .u64 m.a.oH, .int .i64 m.a.oV, .int .i64 m.a.oS]) σ) : s_aa [.pointer (some ⟨p, 0, none⟩)] K σ := by
 obtain ⟨⟨x, hp, _⟩, own, pO⟩ := h
 exact c_AccDone hA (a := m.a.wh x) hp hk
theorem aob_new {kd n ix v old : Int} {o : Bool} (hA : isA N A σ) (hk : ∀ p τ, σ.get p = none → AOb N p [p] (Ak.new kd n ix v old o) τ → Ext σ τ → K (.pointer (some ⟨p, 0, none⟩)) τ) : s_ag [.agg #[.int .i64 kd, .int .u64 n, .int .i64 ix, .int .i64 v, .int .i64 old], .bool o] K σ := by
 refine c_AccNew fun p τ hp gp x => hk p τ hp ⟨⟨none, gp, (fun e => by cases e)⟩, fun i hi => ?_, List.mem_singleton.2 rfl⟩ x
 rw [List.mem_singleton.1 hi]; exact hA.new hp
theorem c_Acc (hN : N.ok) (hC : C.ok) (hA : isA N A σ) {kd n ix v old : Int} {o : Bool} (I : Int → Ak → Ar → Prop) (D : Ak → Ar → Prop) (h0 : I 0 (Ak.new kd n ix v old o) A)
  (hs : ∀ k m A, 0 ≤ k → k < 200 → I k m A → m.fit C A ∧ (∀ i, 0 ≤ A.w i ∧ A.w i < 18446744073709551616) ∧ C.len ≤ A.n ∧ if (m.step C who A).1 = true then D (m.step C who A).2.1 (m.step C who A).2.2 else I (k + 1) (m.step C who A).2.1 (m.step C who A).2.2)
  (he : ∀ m A, I 200 m A → D m A) (hk : ∀ m A' τ, D m A' → isA N A' τ → Keep N.l σ τ → K (.agg #[.int .i64 m.a.oE, .int .u64 m.a.oH, .int .i64 m.a.oV, .int .i64 m.a.oS]) τ) :
  s_ay [N.env C who, .agg #[.int .i64 kd, .int .u64 n, .int .i64 ix, .int .i64 v, .int .i64 old], .bool o] K σ := by
 have gs : ∀ x y z w : Int, gStore 4 [.pointer (some ⟨6, 0, some 0⟩), .agg #[.int .i64 x, .int .u64 y, .int .i64 z, .int .i64 w]] [.int .i64 0, .int .u64 0, .int .i64 0, .int .i64 0] = some [.int .i64 x, .int .u64 y, .int .i64 z, .int .i64 w] := fun _ _ _ _ => rfl
 have g : gBox 5 [.agg #[.int .i64 kd, .int .u64 n, .int .i64 ix, .int .i64 v, .int .i64 old]] [] = some [.int .i64 kd, .int .u64 n, .int .i64 ix, .int .i64 v, .int .i64 old] := rfl
 have s5 : ∀ x y z u w : Value, sub [x, y, z, u, w] 0 5 true = some (.agg #[x, y, z, u, w]) := fun _ _ _ _ _ => rfl
 simp only [s_ay, w_ay, g, s5, ruS, ruL, ruE, Nat.reduceAdd, reduceIte, Int.reduceLT, Int.reduceLE, Int.reduceEq, Int.reduceNeg, Int.reduceAdd, Int.reduceSub, Nat.reduceLeDiff, Nat.reduceLT]
 refine aob_new hA fun p τ0 hp ho x0 => ?_
 have fin : ∀ m A' τ, D m A' → isA N A' τ → (∃ O, AOb N p O m τ) → Keep N.l σ τ → w_ay_j1 K [.pointer (some ⟨p, 0, none⟩)] [[.int .i64 0, .int .u64 0, .int .i64 0, .int .i64 0]] τ := by
  rintro m A' τ hD hA' ⟨O, hO⟩ hK
  simp only [w_ay_j1, w_ay_j1b, ruS, ruL, ruE, Nat.reduceAdd, reduceIte, Int.reduceLT, Int.reduceLE, Int.reduceEq, Int.reduceNeg, Int.reduceAdd, Int.reduceSub, Nat.reduceLeDiff, Nat.reduceLT]
  refine AOb.done hA' hO ?_
  simp only [gs, sub4, ruS, ruL, ruE, Nat.reduceAdd, reduceIte, Int.reduceLT, Int.reduceLE, Int.reduceEq, Int.reduceNeg, Int.reduceAdd, Int.reduceSub, Nat.reduceLeDiff, Nat.reduceLT]
  exact hk m A' τ hD hA' hK
 refine xLoop_i (fun i => [.pointer (some ⟨p, 0, none⟩), .int .i64 i]) [N.el C who, [.int .i64 0, .int .u64 0, .int .i64 0, .int .i64 0]] 200
  (fun i τ => ∃ m A' O, 0 ≤ i ∧ i ≤ 200 ∧ isA N A' τ ∧ I i m A' ∧ AOb N p O m τ ∧ (∀ j ∈ O, σ.get j = none) ∧ Keep N.l σ τ) ?_ ⟨_, A, [p], by omega, by omega, hA.ext x0, h0, ho, fun j hj => by rw [List.mem_singleton.1 hj]; exact hp, x0.keep⟩
 rintro i τ ⟨m, A', O, i0, i1, hA', hI, hO, hOn, hK⟩ R hR
 simp only [w_law10_Do_l4, w_law10_Do_l4b, ruS, ruL, ruE, Nat.reduceAdd, reduceIte, Int.reduceLT, Int.reduceLE, Int.reduceEq, Int.reduceNeg, Int.reduceAdd, Int.reduceSub, Nat.reduceLeDiff, Nat.reduceLT]
 by_cases ci : i < 200
 ·simp only [ci, ruS, ruL, ruE, Nat.reduceAdd, reduceIte, Int.reduceLT, Int.reduceLE, Int.reduceEq, Int.reduceNeg, Int.reduceAdd, Int.reduceSub, Nat.reduceLeDiff, Nat.reduceLT]
  obtain ⟨hf, hw, hn, hst⟩ := hs i m A' i0 ci hI
  refine c_Acc_Step hN hC hA' hO hw hn hf fun O' τ' hO' hA2 hO2 hK2 => ?_
  have hK3 : Keep N.l σ τ' := by
   intro j b hj hn'
   refine hK2 j b (hK j b hj hn') fun hm => ?_
   rcases List.mem_append.1 hm with h | h
   ·rw [hOn j h] at hj; cases hj
   ·exact hn' h
  have hOn' : ∀ j ∈ O', σ.get j = none := by
   intro j hj
   rcases hO' j hj with h | h
   ·exact hOn j h
   ·cases e : σ.get j with
    | none => rfl
    | some b => rw [hK j b e (hA'.new h)] at h; cases h
  generalize m.step C who A' = r at *
  obtain ⟨d, m', A2⟩ := r
  dsimp only at *
  cases d with
  | true =>
   simp only [ruS, ruL, ruE, Nat.reduceAdd, reduceIte, Int.reduceLT, Int.reduceLE, Int.reduceEq, Int.reduceNeg, Int.reduceAdd, Int.reduceSub, Nat.reduceLeDiff, Nat.reduceLT] at hst ⊢
   exact fin m' A2 τ' hst hA2 ⟨O', hO2⟩ hK3
  | false =>
   simp only [ruS, ruL, ruE, Nat.reduceAdd, reduceIte, Int.reduceLT, Int.reduceLE, Int.reduceEq, Int.reduceNeg, Int.reduceAdd, Int.reduceSub, Nat.reduceLeDiff, Nat.reduceLT] at hst ⊢
   rw [IntWalk.i64_in (i + 1) (by omega)]
   exact hR _ ci ⟨m', A2, O', by omega, by omega, hA2, hst, hO2, hOn', hK3⟩
 ·simp only [ci, ruS, ruL, ruE, Nat.reduceAdd, reduceIte, Int.reduceLT, Int.reduceLE, Int.reduceEq, Int.reduceNeg, Int.reduceAdd, Int.reduceSub, Nat.reduceLeDiff, Nat.reduceLT]
  have : i = 200 := by omega
  subst this
  exact fin m A' τ (he _ _ hI) hA' ⟨O, hO⟩ hK
end Go.Fl
namespace Go.Fl
open Go
set_option linter.unusedVariables false
set_option linter.unusedSimpArgs false
variable {N : Nm} {A B : Ar} {σ : Mem} {K : Value → Mem → Prop} {C : Cf} {who : Int}
theorem Ak.new_fit (hC : C.ok) {kd n ix v old : Int} {o : Bool} (hn : 0 ≤ n ∧ n < 18446744073709551616) (hb : (A.n : Int) ≤ 200000000) : (Ak.new kd n ix v old o).fit C A := by
 have hS := hC.S
 exact ⟨⟨⟨Int.le_refl 0, (by decide : (0 : Int) ≤ 6)⟩, hn, ⟨Int.le_refl 0, by show (0 : Int) < C.S; omega⟩, ⟨Int.le_refl 0, (by decide : (0 : Int) < 18446744073709551616)⟩, ⟨Int.le_refl 0, (by decide : (0 : Int) < 18446744073709551616)⟩, fun e => (by cases e), fun e => (by rcases e with e | e <;> cases e), hb⟩, fun e => (by cases e)⟩
def NaI (C : Cf) (A0 : Ar) (m0 : Ak) (k : Int) (m : Ak) (A : Ar) : Prop :=
 k = 0 ∧ m = m0 ∧ A = A0 ∨ k = 1 ∧ A.w = A0.w ∧ A.s = A0.s + 1 ∧ A.n = A0.n ∧ (∀ bb, A0.ok bb → A.ok (bb + 1)) ∧ m.a.pc = 1 ∧ m.a.n = m0.a.n ∧ m.a.own = m0.a.own ∧ m.a.w = A0.w (C.slot (hdSl m0.a.n)) ∧ (m.a.hs = hdSl m0.a.n ∧ hdSl m0.a.n < C.S) ∧ slA m.a.w < C.len ∧ hdO (A0.w (slA m.a.w)) ≠ m0.a.own ∧ m.a.cell = 0
structure NaD (A0 : Ar) (m : Ak) (A : Ar) : Prop where
 e : m.a.oE = 3 ∧ m.a.oH = 0 ∧ m.a.oV = 0
 s : A0.s ≤ m.a.oS ∧ m.a.oS = A.s ∧ A.s ≤ A0.s + 2
 w : A.w = A0.w
 n : A.n = A0.n
 ok : ∀ bb, A0.ok bb → A.ok (bb + 2)
theorem NaI.step (hC : C.ok) {A0 : Ar} {k bb kd n ix v old : Int} {own : Bool} {m : Ak} (h : NaI C A0 (Ak.new kd n ix v old own) k m A) (hn : NoDrop C A0.w n own) (h0 : 0 ≤ n ∧ n < 18446744073709551616) (ok : A0.ok bb) (hb : bb < 4611686018427387904) (hl : C.len ≤ A0.n) (hb2 : (A0.n : Int) ≤ 200000000) :
  m.fit C A ∧ (A.ok (bb + 1) ∧ C.len ≤ A.n ∧ ((m.step C who A).2.2 = A ∨ ∃ a, (m.step C who A).2.2 = (A.by who).load a ∧ 0 ≤ a ∧ a < C.len)) ∧ (((m.step C who A).1 = false ∧ NaI C A0 (Ak.new kd n ix v old own) (k + 1) (m.step C who A).2.1 (m.step C who A).2.2) ∨ ((m.step C who A).1 = true ∧ NaD A0 (m.step C who A).2.1 (m.step C who A).2.2)) := by
 rcases h with ⟨rfl, rfl, rfl⟩ | ⟨rfl, ew, es, en, eo, h1, h2, h3, h4, h5, h6, h7, h8⟩
 ·have hT := hC.T
  have hS := hC.S
  have hCC := hC.C
  have hll := len_bd hC
  have hsb : hdSl n < C.S → 0 ≤ C.slot (hdSl n) ∧ C.slot (hdSl n) < C.len := fun q => by have := hdSl_bd h0.1; unfold Cf.slot; unfold Cf.chunk at hll; omega
  refine ⟨Ak.new_fit hC h0 hb2, ?_⟩
  suffices H : _ ∧ _ from ⟨⟨ok_mono ok (by omega), hl, H.1⟩, H.2⟩
  have p0 : (Ak.new kd n ix v old own).a.pc = 0 := rfl
  have hb := hdSl_bd h0.1
  have a1 := aft_load (who := who) (A := A) (a := C.slot (hdSl n)) ok (by omega)
  have e0 : (Ak.new kd n ix v old own).step C who A = (((Ak.new kd n ix v old own).a.step C who A).1, ⟨((Ak.new kd n ix v old own).a.step C who A).2.1, (Ak.new kd n ix v old own).h⟩, ((Ak.new kd n ix v old own).a.step C who A).2.2) := by
   unfold Ak.step; rw [if_neg (by rw [p0]; decide), if_neg (by rw [p0]; decide)]
  rw [e0]
  by_cases c : hdOk n = false ∨ C.S ≤ hdSl n
  ·have e : (Ak.new kd n ix v old own).a.step C who A = (true, ({ (Ak.new kd n ix v old own).a with hs := hdSl n, hg := hdGe n } : Ac).fin 3 0 A.s, A) := by
    unfold Ac.step; rw [if_pos p0, if_pos (show hdOk (Ak.new kd n ix v old own).a.n = false ∨ C.S ≤ hdSl (Ak.new kd n ix v old own).a.n from c)]; rfl
   rw [e]
   refine ⟨.inl rfl, ?_⟩
   exact .inr ⟨rfl, ⟨rfl, rfl, rfl⟩, ⟨Int.le_refl _, rfl, by dsimp only; omega⟩, rfl, rfl, fun b2 o2 => ok_mono o2 (by omega)⟩
  ·rcases hn with hn | ⟨hn1, hn⟩
   ·exact absurd hn c
   rcases hn with hn | ⟨hn, h8, h9⟩
   ·have e : (Ak.new kd n ix v old own).a.step C who A = (true, ({ (Ak.new kd n ix v old own).a with hs := hdSl n, hg := hdGe n, w := A.w (C.slot (hdSl n)), seen := ((A.by who).load (C.slot (hdSl n))).s, pc := 1 } : Ac).fin 3 0 ((A.by who).load (C.slot (hdSl n))).s, (A.by who).load (C.slot (hdSl n))) := by
     unfold Ac.step; rw [if_pos p0, if_neg (show ¬ (hdOk (Ak.new kd n ix v old own).a.n = false ∨ C.S ≤ hdSl (Ak.new kd n ix v old own).a.n) from c), if_neg (show ¬ lives (A.w (C.slot (hdSl (Ak.new kd n ix v old own).a.n))) (hdGe (Ak.new kd n ix v old own).a.n) from hn)]; rfl
    rw [e]
    refine ⟨.inr ⟨_, rfl, hsb hn1.2⟩, ?_⟩
    exact .inr ⟨rfl, ⟨rfl, rfl, rfl⟩, ⟨by have := a1.s; show A.s ≤ ((A.by who).load (C.slot (hdSl n))).s; omega, rfl, by have := a1.s; show ((A.by who).load (C.slot (hdSl n))).s ≤ _; omega⟩, rfl, rfl, fun b2 o2 => ok_mono (a1.ok (by decide) o2 o2.w) (by omega)⟩
   ·have e : (Ak.new kd n ix v old own).a.step C who A = (false, { (Ak.new kd n ix v old own).a with hs := hdSl n, hg := hdGe n, w := A.w (C.slot (hdSl n)), seen := ((A.by who).load (C.slot (hdSl n))).s, pc := 1 }, (A.by who).load (C.slot (hdSl n))) := by
     unfold Ac.step; rw [if_pos p0, if_neg (show ¬ (hdOk (Ak.new kd n ix v old own).a.n = false ∨ C.S ≤ hdSl (Ak.new kd n ix v old own).a.n) from c), if_pos (show lives (A.w (C.slot (hdSl (Ak.new kd n ix v old own).a.n))) (hdGe (Ak.new kd n ix v old own).a.n) from hn)]; rfl
    rw [e]
    refine ⟨.inr ⟨_, rfl, hsb hn1.2⟩, ?_⟩
    exact .inl ⟨rfl, .inr ⟨rfl, rfl, a1.s, rfl, fun b2 o2 => a1.ok (by decide) o2 o2.w, rfl, rfl, rfl, rfl, ⟨rfl, hn1.2⟩, h8, h9, rfl⟩⟩
 ·have ok' := eo bb ok
  have hb' := hdSl_bd h0.1
  have hnn : (Ak.new kd n ix v old own).a.n = n := rfl
  have hoo : (Ak.new kd n ix v old own).a.own = own := rfl
  rw [hnn] at h2 h4 h5
  rw [hoo] at h3 h7
  refine ⟨⟨⟨by omega, by rw [h2]; exact h0, by rw [h5.1]; exact ⟨hb'.1.1, h5.2⟩, by rw [h4]; exact ok.w _, by rw [h8]; decide, fun _ => by omega, fun e => by omega, by omega⟩, fun e => by omega⟩, ?_⟩
  suffices H : _ ∧ _ from ⟨⟨ok', by omega, H.1⟩, H.2⟩
  have a1 := aft_load (who := who) (A := A) (a := slA m.a.w) ok' (by omega)
  have e0 : m.step C who A = ((m.a.step C who A).1, ⟨(m.a.step C who A).2.1, m.h⟩, (m.a.step C who A).2.2) := by
   unfold Ak.step; rw [if_neg (by omega), if_neg (by omega)]
  have e : m.a.step C who A = (true, ({ m.a with size := hdS (A.w (slA m.a.w)), pc := 2 } : Ac).fin 3 0 ((A.by who).load (slA m.a.w)).s, (A.by who).load (slA m.a.w)) := by
   unfold Ac.step; rw [if_neg (by omega), if_pos h1, if_pos (by rw [h3, ew]; exact h7)]
  rw [e0, e]
  refine ⟨.inr ⟨_, rfl, (slA_bd _).1, h6⟩, ?_⟩
  refine .inr ⟨rfl, ⟨rfl, rfl, rfl⟩, ⟨by have := a1.s; show A0.s ≤ ((A.by who).load (slA m.a.w)).s; omega, rfl, by have := a1.s; show ((A.by who).load (slA m.a.w)).s ≤ _; omega⟩, ew, en, fun b2 o2 => ?_⟩
  rw [show b2 + 2 = b2 + 1 + 1 by omega]
  exact a1.ok (by decide) (eo b2 o2) (eo b2 o2).w
theorem c_AccNo (hN : N.ok) (hC : C.ok) (hA : isA N A σ) {n bb kd ix v old : Int} {own : Bool} (h0 : 0 ≤ n ∧ n < 18446744073709551616) (ok : A.ok bb) (hb : bb < 4611686018427387904) (hl : C.len ≤ A.n) (hb2 : (A.n : Int) ≤ 200000000) (hn : NoDrop C A.w n own)
  (hk : ∀ oS A' τ, (A.s ≤ oS ∧ oS = A'.s ∧ A'.s ≤ A.s + 2) → A'.w = A.w → A'.n = A.n → A'.ok (bb + 2) → isA N A' τ → Keep N.l σ τ → K (.agg #[.int .i64 3, .int .u64 0, .int .i64 0, .int .i64 oS]) τ) :
  s_ay [N.env C who, .agg #[.int .i64 kd, .int .u64 n, .int .i64 ix, .int .i64 v, .int .i64 old], .bool own] K σ := by
 refine c_Acc hN hC hA (NaI C A (Ak.new kd n ix v old own)) (NaD A) (.inl ⟨rfl, rfl, rfl⟩) (fun k m A' k0 k1 h => ?_) (fun m A' h => ?_) (fun m A' τ hD hA' hK => ?_)
 ·obtain ⟨q1, q2, q3⟩ := h.step (who := who) hC hn h0 ok hb hl hb2
  refine ⟨q1, q2.1.w, q2.2.1, ?_⟩
  rcases q3 with ⟨d, h'⟩ | ⟨d, h'⟩
  ·rw [if_neg (by rw [d]; decide)]; exact h'
  ·rw [if_pos d]; exact h'
 ·rcases h with ⟨h, _⟩ | ⟨h, _⟩ <;> omega
 ·rw [hD.e.1, hD.e.2.1, hD.e.2.2]
  exact hk m.a.oS A' τ hD.s hD.w hD.n (hD.ok bb ok) hA' hK
end Go.Fl
namespace Go.Fl
open Go
set_option linter.unusedVariables false
set_option linter.unusedSimpArgs false
variable {N : Nm} {A B : Ar} {σ : Mem} {K : Value → Mem → Prop} {C : Cf} {who : Int}
structure Ol (C : Cf) (w : Int → Int) (n : Int) (own : Bool) (z a : Int) : Prop where
 nb : 0 ≤ n ∧ n < 18446744073709551616
 ok : hdOk n = true
 s : hdSl n < C.S
 st : slS (w (C.slot (hdSl n))) = 1
 ad : slA (w (C.slot (hdSl n))) = a
 ge : slG (w (C.slot (hdSl n))) = hdGe n
 hd : hdO (w a) = own ∧ hdS (w a) = z
 bd : C.base 0 ≤ a ∧ a + z < C.len
 z1 : 1 ≤ z
 cl : ∀ x, 0 ≤ x → x < z → ceF (w (a + 1 + x)) = false
def Looks (m : Ak) (c : Int) : Prop := m.a.kd = 1 ∨ m.a.kd = 3 ∧ ceV c ≠ m.a.old
def LvI (C : Cf) (A0 : Ar) (m0 : Ak) (z a k : Int) (m : Ak) (A : Ar) : Prop :=
 k = 0 ∧ m = m0 ∧ A = A0 ∨
 (A.w = A0.w ∧ A.s = A0.s + k ∧ A.n = A0.n ∧ (∀ bb, A0.ok bb → A.ok (bb + k))) ∧
  (m.a.kd = m0.a.kd ∧ m.a.n = m0.a.n ∧ m.a.ix = m0.a.ix ∧ m.a.v = m0.a.v ∧ m.a.old = m0.a.old ∧ m.a.own = m0.a.own ∧ m.a.hs = hdSl m0.a.n ∧ m.a.hg = hdGe m0.a.n ∧ m.a.w = A0.w (C.slot (hdSl m0.a.n))) ∧
  (k = 1 ∧ m.a.pc = 1 ∧ m.a.cell = 0 ∧ m.a.seen = A0.s + 1 ∨ (0 ≤ m0.a.ix ∧ m0.a.ix < z) ∧ (k = 2 ∧ m.a.pc = 2 ∧ m.a.cell = 0 ∨
   k = 3 ∧ m.a.cell = A0.w (a + 1 + m0.a.ix) ∧ m.a.rd = A0.s + 3 ∧ (m.a.pc = 5 ∧ ¬ Looks m0 m.a.cell ∨ m.a.pc = 6 ∧ Looks m0 m.a.cell)))
structure LvD (C : Cf) (A0 : Ar) (m0 : Ak) (z a : Int) (m : Ak) (A : Ar) : Prop where
  r : ¬ (0 ≤ m0.a.ix ∧ m0.a.ix < z) ∧ m.a.oE = 4 ∧ m.a.oV = 0 ∧ m.a.oS = A0.s + 1 ∧ A.s = A0.s + 2 ∧ A.w = A0.w ∨
    (0 ≤ m0.a.ix ∧ m0.a.ix < z) ∧ A.s = A0.s + 4 ∧ m.a.oV = ceV (A0.w (a + 1 + m0.a.ix)) ∧
      (Looks m0 (A0.w (a + 1 + m0.a.ix)) ∧ m.a.oE = (if m0.a.kd = 3 then 8 else 0) ∧ m.a.oS = A0.s + 3 ∧ A.w = A0.w ∨
       ¬ Looks m0 (A0.w (a + 1 + m0.a.ix)) ∧ m.a.oE = 0 ∧ m.a.oS = A0.s + 4 ∧ A.w = upd A0.w (a + 1 + m0.a.ix) (putCell m0.a.v false 0))
  h : m.a.oH = 0
  n : A.n = A0.n
  ok : ∀ bb, A0.ok bb → A.ok (bb + 4)
theorem LvI.step (hC : C.ok) {A0 : Ar} {k bb z a kd n ix v old : Int} {own : Bool} {m : Ak} (h : LvI C A0 (Ak.new kd n ix v old own) z a k m A) (ho : Ol C A0.w n own z a) (ok : A0.ok bb) (hb : bb < 4611686018427387904) (hl : C.len ≤ A0.n) (hb2 : (A0.n : Int) ≤ 200000000) :
  m.fit C A ∧ ((∀ i, 0 ≤ A.w i ∧ A.w i < 18446744073709551616) ∧ C.len ≤ A.n) ∧
  (((m.step C who A).1 = false ∧ LvI C A0 (Ak.new kd n ix v old own) z a (k + 1) (m.step C who A).2.1 (m.step C who A).2.2) ∨ ((m.step C who A).1 = true ∧ LvD C A0 (Ak.new kd n ix v old own) z a (m.step C who A).2.1 (m.step C who A).2.2)) := by
 have hT := hC.T
 have hS := hC.S
 have hCC := hC.C
 have hll := len_bd hC
 have hsl := hdSl_bd ho.nb.1
 have hos := ho.s
 have hbd := ho.bd
 have hz1 := ho.z1
 have hb0 : C.base 0 = 6 + C.T + 2 * C.S + 3 * C.C := by unfold Cf.base; omega
 have hsb : 0 ≤ C.slot (hdSl n) ∧ C.slot (hdSl n) < C.base 0 := by unfold Cf.slot; omega
 have hlv : lives (A0.w (C.slot (hdSl n))) (hdGe n) := ⟨.inl ho.st, ho.ge⟩
 have hn0 : (Ak.new kd n ix v old own).a.n = n := rfl
 have hk0 : (Ak.new kd n ix v old own).a.kd = kd := rfl
 have hi0 : (Ak.new kd n ix v old own).a.ix = ix := rfl
 have hv0 : (Ak.new kd n ix v old own).a.v = v := rfl
 have hd0 : (Ak.new kd n ix v old own).a.old = old := rfl
 have hw0 : (Ak.new kd n ix v old own).a.own = own := rfl
 rcases h with ⟨rfl, rfl, rfl⟩ | ⟨⟨ew, es, en, eo⟩, ⟨f1, f2, f3, f4, f5, f6, f7, f8, f9⟩, h⟩
 ·refine ⟨Ak.new_fit hC ho.nb hb2, ⟨ok.w, hl⟩, ?_⟩
  have p0 : (Ak.new kd n ix v old own).a.pc = 0 := rfl
  have a1 := aft_load (who := who) (A := A) (a := C.slot (hdSl n)) ok (by omega)
  have e0 : (Ak.new kd n ix v old own).step C who A = (((Ak.new kd n ix v old own).a.step C who A).1, ⟨((Ak.new kd n ix v old own).a.step C who A).2.1, (Ak.new kd n ix v old own).h⟩, ((Ak.new kd n ix v old own).a.step C who A).2.2) := by
   unfold Ak.step; rw [if_neg (by rw [p0]; decide), if_neg (by rw [p0]; decide)]
  have e : (Ak.new kd n ix v old own).a.step C who A = (false, { (Ak.new kd n ix v old own).a with hs := hdSl n, hg := hdGe n, w := A.w (C.slot (hdSl n)), seen := ((A.by who).load (C.slot (hdSl n))).s, pc := 1 }, (A.by who).load (C.slot (hdSl n))) := by
   unfold Ac.step; rw [if_pos p0, if_neg (by rw [hn0]; rintro (q | q); rw [ho.ok] at q; cases q; omega), if_pos (by rw [hn0]; exact hlv)]; rfl
  rw [e0, e]
  exact .inl ⟨rfl, .inr ⟨⟨rfl, a1.s, rfl, fun b2 o2 => a1.ok (by decide) o2 o2.w⟩, ⟨rfl, rfl, rfl, rfl, rfl, rfl, rfl, rfl, rfl⟩, .inl ⟨rfl, rfl, rfl, a1.s⟩⟩⟩
 rw [hk0] at f1; rw [hn0] at f2 f7 f8 f9; rw [hi0] at f3 h; rw [hv0] at f4; rw [hd0] at f5; rw [hw0] at f6
 have ok' := eo bb ok
 have hkk : 0 ≤ k ∧ k ≤ 3 := by rcases h with ⟨h, _⟩ | ⟨_, ⟨h, _⟩ | ⟨h, _⟩⟩ <;> omega
 have esa : slA m.a.w = a := by rw [f9]; exact ho.ad
 have eat : m.a.at' = a + 1 + ix := by unfold Ac.at'; rw [esa, f3]
 have hcell : 0 ≤ m.a.cell ∧ m.a.cell < 18446744073709551616 := by
  rcases h with ⟨_, _, h, _⟩ | ⟨_, ⟨_, _, h⟩ | ⟨_, h, _⟩⟩
  ·rw [h]; decide
  ·rw [h]; decide
  ·rw [h]; exact ok.w _
 have hfit : m.fit C A := by
  refine ⟨⟨?_, by rw [f2]; exact ho.nb, by rw [f7]; exact ⟨hsl.1.1, hos⟩, by rw [f9]; exact ok.w _, hcell, fun _ => by omega, fun e => ?_, by omega⟩, fun e => ?_⟩
  ·rcases h with ⟨_, h, _⟩ | ⟨_, ⟨_, h, _⟩ | ⟨_, _, _, ⟨h, _⟩ | ⟨h, _⟩⟩⟩ <;> omega
  ·rw [eat]
   rcases h with ⟨_, h, _⟩ | ⟨hi, _⟩ <;> omega
  ·rcases h with ⟨_, h, _⟩ | ⟨_, ⟨_, h, _⟩ | ⟨_, _, _, ⟨h, _⟩ | ⟨h, _⟩⟩⟩ <;> omega
 refine ⟨hfit, ⟨ok'.w, by omega⟩, ?_⟩
 rcases h with ⟨rfl, h1, h2, h3⟩ | ⟨hi, ⟨rfl, h1, h2⟩ | ⟨rfl, h1, h2, h3⟩⟩
 ·have a1 := aft_load (who := who) (A := A) (a := slA m.a.w) ok' (by omega)
  have e0 : m.step C who A = ((m.a.step C who A).1, ⟨(m.a.step C who A).2.1, m.h⟩, (m.a.step C who A).2.2) := by
   unfold Ak.step; rw [if_neg (by omega), if_neg (by omega)]
  have own' : ¬ hdO (A.w (slA m.a.w)) ≠ m.a.own := by rw [esa, ew, f6, ho.hd.1]; simp
  by_cases c : m.a.ix < 0 ∨ hdS (A.w (slA m.a.w)) ≤ m.a.ix
  ·have e : m.a.step C who A = (true, ({ m.a with size := hdS (A.w (slA m.a.w)), pc := 2 } : Ac).fin 4 0 m.a.seen, (A.by who).load (slA m.a.w)) := by
    unfold Ac.step; rw [if_neg (by omega), if_pos h1, if_neg own', if_pos c]
   rw [e0, e]
   rw [esa, ew, ho.hd.2, f3] at c
   exact .inr ⟨rfl, ⟨.inl ⟨by rw [hi0]; omega, rfl, rfl, h3, by have := a1.s; show ((A.by who).load (slA m.a.w)).s = _; omega, ew⟩, rfl, en, fun b2 o2 => ok_mono (a1.ok (by decide) (eo b2 o2) (eo b2 o2).w) (by omega)⟩⟩
  ·have e : m.a.step C who A = (false, { m.a with size := hdS (A.w (slA m.a.w)), pc := 2 }, (A.by who).load (slA m.a.w)) := by
    unfold Ac.step; rw [if_neg (by omega), if_pos h1, if_neg own', if_neg c]
   rw [e0, e]
   rw [esa, ew, ho.hd.2, f3] at c
   exact .inl ⟨rfl, .inr ⟨⟨ew, by have := a1.s; show ((A.by who).load (slA m.a.w)).s = _; omega, en, fun b2 o2 => by rw [show b2 + (1 + 1) = b2 + 1 + 1 by omega]; exact a1.ok (by decide) (eo b2 o2) (eo b2 o2).w⟩, ⟨f1, f2, f3, f4, f5, f6, f7, f8, f9⟩, .inr ⟨by rw [hi0]; omega, .inl ⟨rfl, rfl, h2⟩⟩⟩⟩
 ·have a1 := aft_load (who := who) (A := A) (a := m.a.at') ok' (by omega)
  have e0 : m.step C who A = ((m.a.step C who A).1, ⟨(m.a.step C who A).2.1, Hl.new m.a.hs m.a.w m.a.size⟩, (m.a.step C who A).2.2) := by
   unfold Ak.step; rw [if_neg (by omega), if_pos h1]
  have e : m.a.step C who A = (false, { m.a with cell := A.w m.a.at', rd := ((A.by who).load m.a.at').s, pc := ({ m.a with cell := A.w m.a.at' } : Ac).nxt }, (A.by who).load m.a.at') := by
   unfold Ac.step; rw [if_neg (by omega), if_neg (by omega), if_pos h1]
  rw [e0, e]
  have ecl : A.w m.a.at' = A0.w (a + 1 + ix) := by rw [eat, ew]
  have hce := ho.cl ix hi.1 hi.2
  have nx : ({ m.a with cell := A.w m.a.at' } : Ac).nxt = if m.a.kd = 1 ∨ m.a.kd = 3 ∧ ceV (A.w m.a.at') ≠ m.a.old then 6 else 5 := by
   unfold Ac.nxt
   dsimp only
   have hs1 : ¬ slS m.a.w = 4 := by rw [f9, ho.st]; decide
   rw [if_neg hs1, if_pos (show ceF (A.w m.a.at') = false ∨ ceN (A.w m.a.at') < slV m.a.w from .inl (by rw [ecl]; exact hce))]
  refine .inl ⟨rfl, .inr ⟨⟨ew, by have := a1.s; show ((A.by who).load m.a.at').s = _; omega, en, fun b2 o2 => by rw [show b2 + (2 + 1) = b2 + 2 + 1 by omega]; exact a1.ok (by decide) (eo b2 o2) (eo b2 o2).w⟩, ⟨f1, f2, f3, f4, f5, f6, f7, f8, f9⟩, .inr ⟨hi, .inr ⟨rfl, ecl, by have := a1.s; show ((A.by who).load m.a.at').s = _; omega, ?_⟩⟩⟩⟩
  show ({ m.a with cell := A.w m.a.at' } : Ac).nxt = 5 ∧ ¬ Looks _ (A.w m.a.at') ∨ ({ m.a with cell := A.w m.a.at' } : Ac).nxt = 6 ∧ Looks _ (A.w m.a.at')
  rw [nx, f1, f5]
  unfold Looks
  rw [hk0, hd0]
  by_cases c : kd = 1 ∨ kd = 3 ∧ ceV (A.w m.a.at') ≠ old
  ·rw [if_pos c]; exact .inr ⟨rfl, c⟩
  ·rw [if_neg c]; exact .inl ⟨rfl, c⟩
 ·have e0 : m.step C who A = ((m.a.step C who A).1, ⟨(m.a.step C who A).2.1, m.h⟩, (m.a.step C who A).2.2) := by
   unfold Ak.step; rw [if_neg (by rcases h3 with ⟨h, _⟩ | ⟨h, _⟩ <;> omega), if_neg (by rcases h3 with ⟨h, _⟩ | ⟨h, _⟩ <;> omega)]
  rcases h3 with ⟨hp, hq⟩ | ⟨hp, hq⟩
  ·have a1 := aft_cas (who := who) (A := A) (a := m.a.at') (o := m.a.cell) (v := putCell m.a.v false 0) ok' (by omega)
   have ec : A.w m.a.at' = m.a.cell := by rw [eat, ew, h1]
   rw [if_pos ec] at a1
   have e : m.a.step C who A = (true, ({ m.a with pc := 0 } : Ac).fin 0 (ceV m.a.cell) ((A.by who).cas m.a.at' m.a.cell (putCell m.a.v false 0)).s, (A.by who).cas m.a.at' m.a.cell (putCell m.a.v false 0)) := by
    unfold Ac.step; rw [if_neg (by omega), if_neg (by omega), if_neg (by omega), if_neg (by omega), if_pos hp, if_pos ec]
   rw [e0, e]
   refine .inr ⟨rfl, ⟨.inr ⟨hi, by have := a1.s; show ((A.by who).cas _ _ _).s = _; omega, by show ceV m.a.cell = _; rw [h1, hi0], .inr ⟨by rw [hi0, ← h1]; exact hq, rfl, by have := a1.s; show ((A.by who).cas _ _ _).s = _; omega, ?_⟩⟩, rfl, by show ((A.by who).cas _ _ _).n = _; rw [a1.n, en], fun b2 o2 => ?_⟩⟩
   ·show ((A.by who).cas _ _ _).w = _; rw [a1.w, ew, eat, hi0, hv0, f4]
   ·rw [show b2 + 4 = b2 + 3 + 1 by omega]
    exact a1.ok (by decide) (eo b2 o2) fun i => upd_cases (P := fun x => 0 ≤ x ∧ x < 18446744073709551616) (putCell_in _ _ _) (ok'.w i)
  ·have a1 := aft_load (who := who) (A := A) (a := C.slot m.a.hs) ok' (by omega)
   have l1 : lives (A.w (C.slot m.a.hs)) m.a.hg := by rw [f7, f8, ew]; exact hlv
   have l2 : slA (A.w (C.slot m.a.hs)) = slA m.a.w := by rw [f7, f9, ew]
   have e : m.a.step C who A = (true, m.a.fin (if m.a.kd = 3 then 8 else 0) (ceV m.a.cell) m.a.rd, (A.by who).load (C.slot m.a.hs)) := by
    unfold Ac.step; rw [if_neg (by omega), if_neg (by omega), if_neg (by omega), if_neg (by omega), if_neg (by omega), if_pos l1, if_pos l2]
   rw [e0, e]
   exact .inr ⟨rfl, ⟨.inr ⟨hi, by have := a1.s; show ((A.by who).load _).s = _; omega, by show ceV m.a.cell = _; rw [h1, hi0], .inl ⟨by rw [hi0, ← h1]; exact hq, by show (if m.a.kd = 3 then 8 else 0) = _; rw [f1, hk0], h2, ew⟩⟩, rfl, en, fun b2 o2 => by rw [show b2 + 4 = b2 + 3 + 1 by omega]; exact a1.ok (by decide) (eo b2 o2) (eo b2 o2).w⟩⟩
theorem c_AccL (hN : N.ok) (hC : C.ok) (hA : isA N A σ) {n bb z a kd ix v old : Int} {own : Bool} (ho : Ol C A.w n own z a) (ok : A.ok bb) (hb : bb < 4611686018427387904) (hl : C.len ≤ A.n) (hb2 : (A.n : Int) ≤ 200000000)
  (hk : ∀ m A' τ, LvD C A (Ak.new kd n ix v old own) z a m A' → isA N A' τ → Keep N.l σ τ → K (.agg #[.int .i64 m.a.oE, .int .u64 0, .int .i64 m.a.oV, .int .i64 m.a.oS]) τ) :
  s_ay [N.env C who, .agg #[.int .i64 kd, .int .u64 n, .int .i64 ix, .int .i64 v, .int .i64 old], .bool own] K σ := by
 refine c_Acc hN hC hA (LvI C A (Ak.new kd n ix v old own) z a) (LvD C A (Ak.new kd n ix v old own) z a) (.inl ⟨rfl, rfl, rfl⟩) (fun k m A' k0 k1 h => ?_) (fun m A' h => ?_) (fun m A' τ hD hA' hK => ?_)
 ·obtain ⟨q1, q2, q3⟩ := h.step (who := who) hC ho ok hb hl hb2
  refine ⟨q1, q2.1, q2.2, ?_⟩
  rcases q3 with ⟨d, h'⟩ | ⟨d, h'⟩
  ·rw [if_neg (by rw [d]; decide)]; exact h'
  ·rw [if_pos d]; exact h'
 ·rcases h with ⟨h, _⟩ | ⟨_, _, ⟨h, _⟩ | ⟨_, ⟨h, _⟩ | ⟨h, _⟩⟩⟩ <;> omega
 ·rw [hD.h]; exact hk m A' τ hD hA' hK
end Go.Fl
namespace Go.Fl
open Go
set_option linter.unusedVariables false
set_option linter.unusedSimpArgs false
variable {N : Nm} {A B : Ar} {σ : Mem} {K : Value → Mem → Prop} {C : Cf} {who : Int}
theorem ceF_lay {v : Int} : ceF (putCell v false 0) = false := decide_eq_false (by unfold putCell cl; simp only [Bool.false_eq_true, if_false]; omega)
theorem putCell_lay {v : Int} (h : 0 ≤ v ∧ v ≤ 1099511627775) : putCell v false 0 = v := by unfold putCell; simp only [Bool.false_eq_true, if_false]; exact cl_in h.1 h.2
def Lk (kd old c : Int) : Prop := kd = 1 ∨ kd = 3 ∧ ceV c ≠ old
instance {kd old c : Int} : Decidable (Lk kd old c) := by unfold Lk; infer_instance
structure Lo (C : Cf) (n : Int) (own : Bool) (z W kd ix v old : Int) (m : Ak) : Prop where
 f : m.a.kd = kd ∧ m.a.n = n ∧ m.a.ix = ix ∧ m.a.v = v ∧ m.a.old = old ∧ m.a.own = own
 hs : 0 ≤ m.a.hs ∧ m.a.hs < C.S
 w : 0 ≤ m.a.w ∧ m.a.w < 18446744073709551616
 cell : 0 ≤ m.a.cell ∧ m.a.cell < 18446744073709551616
 at' : m.a.pc = 0 ∨ (m.a.hs = hdSl n ∧ m.a.hg = hdGe n ∧ m.a.w = W) ∧ (m.a.pc = 1 ∨ (0 ≤ ix ∧ ix < z) ∧ (m.a.pc = 2 ∨ ceF m.a.cell = false ∧ (m.a.pc = 5 ∧ ¬ Lk kd old m.a.cell ∨ m.a.pc = 6 ∧ Lk kd old m.a.cell)))
inductive LoR (C : Cf) (who n : Int) (own : Bool) (z a W kd ix v old : Int) (A : Ar) (m : Ak) : Bool → Ak → Ar → Prop
 | see {m' : Ak} : m.a.pc = 0 → Lo C n own z W kd ix v old m' → m'.a.pc = 1 → m'.a.seen = A.s + 1 → LoR C who n own z a W kd ix v old A m false m' ((A.by who).load (C.slot (hdSl n)))
 | head {m' : Ak} : m.a.pc = 1 → Lo C n own z W kd ix v old m' → m'.a.pc = 2 → 0 ≤ ix ∧ ix < z → LoR C who n own z a W kd ix v old A m false m' ((A.by who).load a)
 | index {m' : Ak} : m.a.pc = 1 → ¬ (0 ≤ ix ∧ ix < z) → m'.a.oE = 4 ∧ m'.a.oH = 0 ∧ m'.a.oV = 0 ∧ m'.a.oS = m.a.seen → LoR C who n own z a W kd ix v old A m true m' ((A.by who).load a)
 | load {m' : Ak} : m.a.pc = 2 → 0 ≤ ix ∧ ix < z → Lo C n own z W kd ix v old m' → m'.a.cell = A.w (a + 1 + ix) → m'.a.rd = A.s + 1 → (m'.a.pc = 5 ∧ ¬ Lk kd old m'.a.cell ∨ m'.a.pc = 6 ∧ Lk kd old m'.a.cell) → LoR C who n own z a W kd ix v old A m false m' ((A.by who).load (a + 1 + ix))
 | lay {m' : Ak} : m.a.pc = 5 → 0 ≤ ix ∧ ix < z → ¬ Lk kd old m.a.cell → A.w (a + 1 + ix) = m.a.cell → m'.a.oE = 0 ∧ m'.a.oH = 0 ∧ m'.a.oV = ceV m.a.cell ∧ m'.a.oS = A.s + 1 → LoR C who n own z a W kd ix v old A m true m' ((A.by who).store (a + 1 + ix) (putCell v false 0))
 | again {m' : Ak} : m.a.pc = 5 → 0 ≤ ix ∧ ix < z → ¬ Lk kd old m.a.cell → A.w (a + 1 + ix) ≠ m.a.cell → Lo C n own z W kd ix v old m' → m'.a.pc = 0 → LoR C who n own z a W kd ix v old A m false m' ((A.by who).load (a + 1 + ix))
 | look {m' : Ak} : m.a.pc = 6 → 0 ≤ ix ∧ ix < z → Lk kd old m.a.cell → m'.a.oE = (if kd = 3 then 8 else 0) ∧ m'.a.oH = 0 ∧ m'.a.oV = ceV m.a.cell ∧ m'.a.oS = m.a.rd → LoR C who n own z a W kd ix v old A m true m' ((A.by who).load (C.slot (hdSl n)))
theorem Ol.lay (hC : C.ok) {w : Int → Int} {n z a x v : Int} {own : Bool} (h : Ol C w n own z a) (x0 : 0 ≤ x) (x1 : x < z) : Ol C (upd w (a + 1 + x) (putCell v false 0)) n own z a := by
 have hT := hC.T
 have hS := hC.S
 have hCC := hC.C
 have hsl := hdSl_bd h.nb.1
 have hos := h.s
 have hbd := h.bd
 have hb0 : C.base 0 = 6 + C.T + 2 * C.S + 3 * C.C := by unfold Cf.base; omega
 have e1 : upd w (a + 1 + x) (putCell v false 0) (C.slot (hdSl n)) = w (C.slot (hdSl n)) := upd_ne _ _ (by unfold Cf.slot; omega)
 have e2 : upd w (a + 1 + x) (putCell v false 0) a = w a := upd_ne _ _ (by omega)
 refine ⟨h.nb, h.ok, h.s, by rw [e1]; exact h.st, by rw [e1]; exact h.ad, by rw [e1]; exact h.ge, by rw [e2]; exact h.hd, h.bd, h.z1, fun y y0 y1 => ?_⟩
 by_cases c : y = x
 ·subst c; rw [upd_same]; exact ceF_lay
 ·rw [upd_ne _ _ (by omega)]; exact h.cl y y0 y1
structure LoK (C : Cf) (n : Int) (own : Bool) (z a W bb : Int) (A A' : Ar) : Prop where
 ol : Ol C A'.w n own z a
 W : A'.w (C.slot (hdSl n)) = W
 ok : A'.ok (bb + 1)
 n : A'.n = A.n
 s : A'.s = A.s + 1
 la : 0 ≤ A'.la ∧ A'.la < C.len
end Go.Fl
namespace Go.Fl
open Go
set_option linter.unusedVariables false
set_option linter.unusedSimpArgs false
variable {N : Nm} {A B : Ar} {σ : Mem} {K : Value → Mem → Prop} {C : Cf} {who : Int}
theorem Ol.made (hC : C.ok) {w : Int → Int} {s ge z a : Int} {own : Bool} (s0 : 0 ≤ s ∧ s < C.S) (g0 : 1 ≤ ge ∧ ge ≤ 65535) (hz : 0 ≤ classOf z) (hbd : C.base 0 ≤ a ∧ a + z < C.len) (h1 : w (C.slot s) = putSlot 1 a ge 0) (h2 : w a = putHead 2 z s ge own)
  (h3 : ∀ x, 0 ≤ x → x < z → w (a + 1 + x) = 0) : Ol C w (putHandle s ge) own z a := by
 have hS := hC.S
 have hT := hC.T
 have hCC := hC.C
 have hl := len_bd hC
 obtain ⟨sz, szr⟩ := class_room' hz
 obtain ⟨u0, u1, u2, u3, u4⟩ := hd_handle (s := s) (g := ge) (by omega) g0
 have hb0 : C.base 0 = 6 + C.T + 2 * C.S + 3 * C.C := by unfold Cf.base; omega
 obtain ⟨p1, p2, p3, p4⟩ := sl_put (st := 1) (ad := a) (ge := ge) (ve := 0) (by decide) (by omega) (by omega) (by decide)
 obtain ⟨q1, q2, q3, q4, q5⟩ := hd_put (k := 2) (s := z) (t := s) (g := ge) (o := own) (by decide) (by omega) (by omega) (by omega)
 exact ⟨u0, u1, by rw [u2]; exact s0.2, by rw [u2, h1]; exact p1, by rw [u2, h1]; exact p2, by rw [u2, u3, h1]; exact p3, ⟨by rw [h2]; exact q5, by rw [h2]; exact q2⟩, hbd, by omega, fun x x0 x1 => by rw [h3 x x0 x1]; rfl⟩
structure Fst (C : Cf) (own : Bool) (z : Int) (A' : Ar) (a : Int) : Prop where
 ol : Ol C A'.w 65536 own z a
 sl : hdSl 65536 = 0 ∧ hdGe 65536 = 1
 W : A'.w (C.slot 0) = putSlot 1 a 1 0
 hd : A'.w a = putHead 2 z 0 1 own
 cz : ∀ x, 0 ≤ x → x < z → A'.w (a + 1 + x) = 0
 at' : a = C.base 0
 aw : Bg.aw ⟨(upL 0 C.S.toNat).tail, upd (fun _ => -1) (classOf z) 0, upd (fun _ => 0) 0 (roomOf (classOf z)), upd (fun _ => 0) 0 (roomOf (classOf z)), 1⟩ C A'.w
 slots : ∀ t, 1 ≤ t → t < C.S → A'.w (C.slot t) = putSlot 0 0 1 0
 s : 2 * C.S + 2 < A'.s ∧ A'.s ≤ 2 * C.S + 102
 pa : Pa C A' 1000000
 n : A'.n = C.len.toNat
 la : A'.la < C.len
theorem upL_head {S : Int} (h : 1 ≤ S) : upL 0 S.toNat = 0 :: (upL 0 S.toNat).tail := by
 obtain ⟨k, e⟩ : ∃ k, S.toNat = k + 1 := ⟨S.toNat - 1, by omega⟩
 rw [e]; rfl
theorem c_First (hN : N.ok) (hC : C.ok) (hA : isA N A σ) (hF : Frsh N C A) {z : Int} {own : Bool} (hz : 0 ≤ classOf z)
  (hk : ∀ oV oS A' τ, Fst C own z A' (C.base 0) → (2 * C.S + 2 < oS ∧ oS ≤ A'.s) → isA N A' τ → Keep N.l σ τ → K (.agg #[.int .i64 0, .int .u64 65536, .int .i64 oV, .int .i64 oS]) τ) :
  s_aw [N.env C who, .int .i64 z, .bool own] K σ := by
 have hS := hC.S
 have hT := hC.T
 have hCC := hC.C
 have hW := hC.W
 have hl := len_bd hC
 have hAw0 := hF.aw hC
 have hb0 : C.base 0 = 6 + C.T + 2 * C.S + 3 * C.C := by unfold Cf.base; omega
 have hP := (hF.pa hC).mono (show 2 * C.S + 2 ≤ 200000 by omega)
 have hFF : (Bg.fr C).F = 0 :: (upL 0 C.S.toNat).tail := upL_head hS.1
 have hnx0 : (Bg.fr C).nx = 0 := rfl
 have hw0 : ∀ s, 0 ≤ s → s < C.S → A.w (C.slot s) = putSlot 0 0 1 0 := by
  intro s s0 s1
  rw [hF.w]
  unfold Cf.w0 Cf.fr
  rw [if_neg (by unfold Cf.slot; omega), if_neg (by unfold Cf.slot; omega), if_pos (by unfold Cf.slot; omega), if_pos (by unfold Cf.slot; omega)]
 have hge : slG (A.w (C.slot 0)) = 1 := by rw [hw0 0 (by omega) (by omega)]; decide
 have hngood : ∀ c, ¬ good C (Bg.fr C).o (Bg.fr C).u c := fun c h => absurd h.1 (by decide : ¬ (0 : Int) ≤ -1)
 have hss := hF.s
 have hla := hF.la
 refine c_MakeN hN hC hA hP (by omega) hAw0 (fr_lv.ok (by decide)) hz fun m A2 τ2 hD hP2 hn2 hA2 k2 => ?_
 obtain ⟨e0, hs1, j, b', hg, hj, hu, eH, hAw, w1', w2, w3⟩ := hD.r.ok hFF (.inr (by omega))
 rw [hge] at eH w1' w2
 have hj0 : j = 0 ∧ b' = ⟨(upL 0 C.S.toNat).tail, upd (fun _ => -1) (classOf z) 0, upd (fun _ => 0) 0 (roomOf (classOf z)), fun _ => 0, 1⟩ := by
  rcases hg with ⟨q, _⟩ | ⟨_, _, q1, q2⟩
  ·exact absurd q (hngood _)
  ·refine ⟨q1, q2.trans ?_⟩
   rw [q1]; show (⟨_, upd (fun _ => -1) (classOf z) 0, upd (fun _ => 0) 0 (0 + roomOf (classOf z)), fun _ => 0, 0 + 1⟩ : Bg) = _
   rw [Int.zero_add]; rfl
 obtain ⟨rfl, rfl⟩ := hj0
 have hu0 : (Bg.fr C).u 0 = 0 := rfl
 rw [hu0] at w1' w2 w3 hu
 simp only [Int.add_zero, Int.zero_add] at w1' w2 w3 hu
 have hc3 := (class_bd z).2
 have hr := room_bd hz hc3
 obtain ⟨sz, szr⟩ := class_room' hz
 have hbase : C.base 0 + z < C.len := by
  have := base_of hC (j := 0) (i := z) (by omega) (by omega) (by omega) (by omega)
  omega
 have cl0 : ∀ x, 0 ≤ x → x < z → A2.w (C.base 0 + 1 + x) = 0 := fun x x0 x1 => by
  have := w3 (1 + x) (by omega) (by omega)
  rw [show C.base 0 + 1 + x = C.base 0 + (1 + x) by omega]; exact this
 have hol := Ol.made hC (s := 0) (ge := 1) (z := z) (a := C.base 0) (own := own) (w := A2.w) ⟨Int.le_refl 0, by omega⟩ (by decide) hz ⟨Int.le_refl _, hbase⟩ w1' w2 cl0
 have hh : putHandle 0 1 = 65536 := by decide
 rw [hh] at hol eH
 rw [e0, eH]
 refine hk m.a.oV m.a.oS A2 τ2 ⟨hol, by decide, w1', w2, cl0, rfl, ?_, fun t t0 t1 => ?_, by have := hD.n; omega, hP2.mono (by omega), hn2.1.trans hF.n, hn2.2 (by omega)⟩ ⟨by omega, hD.n.1.2⟩ hA2 k2
 ·have : (Bg.count ⟨(upL 0 C.S.toNat).tail, upd (fun _ => -1) (classOf z) 0, upd (fun _ => 0) 0 (roomOf (classOf z)), fun _ => 0, 1⟩ 0 (roomOf (classOf z))) = ⟨(upL 0 C.S.toNat).tail, upd (fun _ => -1) (classOf z) 0, upd (fun _ => 0) 0 (roomOf (classOf z)), upd (fun _ => 0) 0 (roomOf (classOf z)), 1⟩ := by
   show (⟨_, _, _, upd (fun _ => 0) 0 (0 + roomOf (classOf z)), 1⟩ : Bg) = _
   rw [Int.zero_add]
  rw [this] at hAw; exact hAw
 ·rw [hD.fw.slot t (by omega) t1 fun _ F q => by rw [hFF] at q; injection q with q _; omega]
  exact hw0 t (by omega) t1
end Go.Fl
namespace Go.Fl
open Go
set_option linter.unusedVariables false
set_option linter.unusedSimpArgs false
variable {N : Nm} {A B : Ar} {σ : Mem} {K : Value → Mem → Prop} {C : Cf} {who : Int}
structure Cw (C : Cf) (c : Int) (w w0 : Int → Int) : Prop where
 o : w (2 + c) = w0 (2 + c)
 k : ∀ j, 0 ≤ j → j < C.C → w (C.chunk j) = w0 (C.chunk j)
theorem Cw.refl {c : Int} {w : Int → Int} : Cw C c w w := ⟨rfl, fun _ _ _ => rfl⟩
theorem Cw.trans {c : Int} {w w1 w2 : Int → Int} (h : Cw C c w w1) (k : Cw C c w1 w2) : Cw C c w w2 := ⟨h.o.trans k.o, fun j j0 j1 => (h.k j j0 j1).trans (k.k j j0 j1)⟩
theorem Cw.upd {c a v : Int} {w w0 : Int → Int} (h : Cw C c w w0) (ho : a ≠ 2 + c) (hk : ∀ j, 0 ≤ j → j < C.C → a ≠ C.chunk j) : Cw C c (upd w a v) w0 :=
 ⟨by rw [upd_ne _ _ (Ne.symm ho)]; exact h.o, fun j j0 j1 => by rw [upd_ne _ _ (Ne.symm (hk j j0 j1))]; exact h.k j j0 j1⟩
theorem Cw.both {c a v : Int} {w w0 : Int → Int} (h : Cw C c w w0) : Cw C c (Go.Fl.upd w a v) (Go.Fl.upd w0 a v) := by
 refine ⟨?_, fun j j0 j1 => ?_⟩
 ·unfold Go.Fl.upd; split
  ·rfl
  ·exact h.o
 ·unfold Go.Fl.upd; split
  ·rfl
  ·exact h.k j j0 j1
structure Tb (C : Cf) (c : Int) (w0 : Int → Int) : Prop where
 cb : 0 ≤ c ∧ c ≤ 3
 o : 0 ≤ w0 (2 + c) ∧ w0 (2 + c) ≤ C.C
 w : ∀ j, 0 ≤ j → j < C.C → 0 ≤ w0 (C.chunk j) ∧ w0 (C.chunk j) < 18446744073709551616
 n : ∀ j, 0 ≤ j → j < C.C → chS (w0 (C.chunk j)) = 0 → chN (w0 (C.chunk j)) < 68719476735
def gdT (C : Cf) (c : Int) (w0 : Int → Int) : Prop := 1 ≤ w0 (2 + c) ∧ chS (w0 (C.chunk (w0 (2 + c) - 1))) = 1 ∧ chC (w0 (C.chunk (w0 (2 + c) - 1))) = c ∧ chU (w0 (C.chunk (w0 (2 + c) - 1))) + roomOf c ≤ C.W
def ffT (C : Cf) (w0 : Int → Int) (f : Int) : Prop := (0 ≤ f ∧ f < C.C) ∧ chS (w0 (C.chunk f)) = 0 ∧ chN (w0 (C.chunk f)) < 68719476735 ∧ ∀ j, 0 ≤ j → j < f → chS (w0 (C.chunk j)) ≠ 0
def frT (c n : Int) : Int := putChunk 1 c 0 (n + 1)
def t1 (C : Cf) (c f : Int) (w0 : Int → Int) : Int → Int := upd w0 (C.chunk f) (frT c (chN (w0 (C.chunk f))))
def t2 (C : Cf) (c f : Int) (w0 : Int → Int) : Int → Int := upd (t1 C c f w0) (2 + c) (f + 1)
def PlG (C : Cf) (c : Int) (w0 : Int → Int) (k : Int) (t : Pl) (w : Int → Int) : Prop :=
 (t.cls = c ∧ t.ok = false) ∧ (
  Cw C c w w0 ∧ (
   t.pc = 0 ∧ t = Pl.new c ∧ k = 0 ∨
   t.pc = 1 ∧ 1 ≤ w0 (2 + c) ∧ t.opn = w0 (2 + c) ∧ t.at' = w0 (2 + c) - 1 ∧ (0 ≤ t.w ∧ t.w < 18446744073709551616) ∧ k = 1 ∨
   t.pc = 2 ∧ gdT C c w0 ∧ (0 ≤ t.opn ∧ t.opn < 18446744073709551616) ∧ t.at' = w0 (2 + c) - 1 ∧ t.w = w0 (C.chunk t.at') ∧ k = 2 ∨
   ¬ gdT C c w0 ∧ t.opn = w0 (2 + c) ∧ (0 ≤ t.at' ∧ t.at' < C.C) ∧ (∀ j, 0 ≤ j → j < t.at' → chS (w0 (C.chunk j)) ≠ 0) ∧ k ≤ 3 + t.at' ∧ (t.pc = 3 ∧ (0 ≤ t.w ∧ t.w < 18446744073709551616) ∨ t.pc = 4 ∧ ffT C w0 t.at' ∧ t.w = w0 (C.chunk t.at')) ∧ (t.pc = 3 → k ≤ 2 + t.at')) ∨
  ¬ gdT C c w0 ∧ ∃ f, ffT C w0 f ∧ (
   t.pc = 5 ∧ Cw C c w (t1 C c f w0) ∧ t.opn = w0 (2 + c) ∧ t.at' = f ∧ (0 ≤ t.w ∧ t.w < 18446744073709551616) ∧ k ≤ 5 + f ∨
   Cw C c w (t2 C c f w0) ∧ (t.pc = 0 ∧ (0 ≤ t.opn ∧ t.opn < 18446744073709551616) ∧ (0 ≤ t.at' ∧ t.at' < C.C) ∧ (0 ≤ t.w ∧ t.w < 18446744073709551616) ∧ k ≤ 6 + f ∨
    t.pc = 1 ∧ (0 ≤ t.opn ∧ t.opn < 18446744073709551616) ∧ t.at' = f ∧ (0 ≤ t.w ∧ t.w < 18446744073709551616) ∧ k ≤ 7 + f ∨
    t.pc = 2 ∧ (0 ≤ t.opn ∧ t.opn < 18446744073709551616) ∧ t.at' = f ∧ t.w = frT c (chN (w0 (C.chunk f))) ∧ k ≤ 8 + f)))
def PlD (C : Cf) (c : Int) (w0 : Int → Int) (t : Pl) (w : Int → Int) : Prop :=
 t.cls = c ∧ (
  gdT C c w0 ∧ t.ok = true ∧ t.sc = w0 (2 + c) - 1 ∧ t.sa = C.base t.sc + chU (w0 (C.chunk t.sc)) ∧ Cw C c w (upd w0 (C.chunk t.sc) (putChunk 1 c (chU (w0 (C.chunk t.sc)) + roomOf c) (chN (w0 (C.chunk t.sc))))) ∨
  ¬ gdT C c w0 ∧ (∃ f, ffT C w0 f ∧ t.ok = true ∧ t.sc = f ∧ t.sa = C.base f ∧ Cw C c w (upd (t2 C c f w0) (C.chunk f) (putChunk 1 c (roomOf c) (chN (w0 (C.chunk f)) + 1)))) ∨
  ¬ gdT C c w0 ∧ t.ok = false ∧ Cw C c w w0 ∧ ∀ j, 0 ≤ j → j < C.C → chS (w0 (C.chunk j)) ≠ 0)
theorem PlG.keep {c k : Int} {w0 w w' : Int → Int} {t : Pl} (h : PlG C c w0 k t w) (x : Cw C c w' w) : PlG C c w0 k t w' := by
 obtain ⟨h1, ⟨h2, h3⟩ | ⟨h2, f, h3, ⟨h4, h5, h6⟩ | ⟨h4, h5⟩⟩⟩ := h
 ·exact ⟨h1, .inl ⟨x.trans h2, h3⟩⟩
 ·exact ⟨h1, .inr ⟨h2, f, h3, .inl ⟨h4, x.trans h5, h6⟩⟩⟩
 ·exact ⟨h1, .inr ⟨h2, f, h3, .inr ⟨x.trans h4, h5⟩⟩⟩
theorem PlG.kle (hC : C.ok) {c k : Int} {w0 w : Int → Int} {t : Pl} (h : PlG C c w0 k t w) : k ≤ 8 + C.C := by
 have := hC.C
 obtain ⟨h1, ⟨h2, ⟨_, _, h⟩ | ⟨_, _, _, _, _, h⟩ | ⟨_, _, _, _, _, h⟩ | ⟨_, _, h3, _, h, _⟩⟩ | ⟨h2, f, h3, ⟨h4, _, _, _, _, h⟩ | ⟨h4, ⟨_, _, _, _, h⟩ | ⟨_, _, _, _, h⟩ | ⟨_, _, _, _, h⟩⟩⟩⟩ := h
 ·omega
 ·omega
 ·omega
 ·omega
 all_goals (have := h3.1; omega)
theorem PlG.fit (hC : C.ok) {c k : Int} {w0 w : Int → Int} {t : Pl} (h : PlG C c w0 k t w) (hT : Tb C c w0) : t.fit C ∧ w (2 + t.cls) ≤ C.C := by
 have hCC := hC.C
 have h0 := hT.cb
 have ho := hT.o
 obtain ⟨⟨hc, _⟩, h⟩ := h
 refine ⟨⟨by rw [hc]; exact h0, ?_, ?_, ?_⟩, ?_⟩
 ·rcases h with ⟨h2, ⟨_, e, h⟩ | ⟨_, _, e, _, _, h⟩ | ⟨_, _, e, _, _, h⟩ | ⟨_, e, h3, _, h, _⟩⟩ | ⟨h2, f, h3, ⟨h4, _, e, _, _, h⟩ | ⟨h4, ⟨_, e, _, _, h⟩ | ⟨_, e, _, _, h⟩ | ⟨_, e, _, _, h⟩⟩⟩
  ·rw [e]; exact ⟨Int.le_refl 0, (by decide : (0 : Int) < 18446744073709551616)⟩
  ·omega
  ·exact e
  ·omega
  ·omega
  ·exact e
  ·exact e
  ·exact e
 ·rcases h with ⟨h2, ⟨_, e, h⟩ | ⟨_, _, _, e, _, h⟩ | ⟨_, g, _, e, _, h⟩ | ⟨_, _, e, _, h, _⟩⟩ | ⟨h2, f, h3, ⟨h4, _, _, e, _, h⟩ | ⟨h4, ⟨_, _, e, _, h⟩ | ⟨_, _, e, _, h⟩ | ⟨_, _, e, _, h⟩⟩⟩
  ·rw [e]; exact ⟨Int.le_refl 0, by show (0 : Int) < C.C; omega⟩
  ·omega
  ·have := g.1; omega
  ·exact e
  ·rw [e]; exact h3.1
  ·exact e
  ·rw [e]; exact h3.1
  ·rw [e]; exact h3.1
 ·rcases h with ⟨h2, ⟨_, e, h⟩ | ⟨_, _, _, _, e, h⟩ | ⟨_, g, _, e1, e, h⟩ | ⟨_, _, e1, _, _, ⟨_, e⟩ | ⟨_, _, e⟩, _⟩⟩ | ⟨h2, f, h3, ⟨h4, _, _, _, e, h⟩ | ⟨h4, ⟨_, _, _, e, h⟩ | ⟨_, _, _, e, h⟩ | ⟨_, _, _, e, h⟩⟩⟩
  ·rw [e]; exact ⟨Int.le_refl 0, (by decide : (0 : Int) < 18446744073709551616)⟩
  ·exact e
  ·rw [e]; exact hT.w _ (by have := g.1; omega) (by omega)
  ·exact e
  ·rw [e]; exact hT.w _ e1.1 e1.2
  ·exact e
  ·exact e
  ·exact e
  ·rw [e]; exact putChunk_in _ _ _ _
 ·rw [hc]
  rcases h with ⟨h2, _⟩ | ⟨h2, f, h3, ⟨_, h4, _⟩ | ⟨h4, _⟩⟩
  ·rw [h2.o]; exact ho.2
  ·rw [h4.o]; unfold t1; rw [upd_ne _ _ (by have := hC.T; have := hC.S; have := h3.1; unfold Cf.chunk; omega)]; exact ho.2
  ·rw [h4.o]; unfold t2; rw [upd_same]; have := h3.1; omega
def PlA (C : Cf) (c a : Int) : Prop := a = 2 + c ∨ ∃ j, 0 ≤ j ∧ j < C.C ∧ a = C.chunk j
structure PlT (C : Cf) (who c : Int) (A A' : Ar) : Prop where
 ex : ∃ a, PlA C c a ∧ (A' = (A.by who).load a ∨ ∃ v, (0 ≤ v ∧ v < 18446744073709551616) ∧ A' = (A.by who).store a v)
theorem PlG.step (hC : C.ok) {c k : Int} {w0 : Int → Int} {t : Pl} (h : PlG C c w0 k t A.w) (hT : Tb C c w0) :
  PlT C who c A (t.step C who A).2.2 ∧ ((t.step C who A).1 = false ∧ PlG C c w0 (k + 1) (t.step C who A).2.1 (t.step C who A).2.2.w ∨ (t.step C who A).1 = true ∧ PlD C c w0 (t.step C who A).2.1 (t.step C who A).2.2.w) := by
 have hCC := hC.C
 have h0 := hT.cb
 have ho := hT.o
 have hW := hC.W
 have hTT := hC.T
 have hSS := hC.S
 have hr := room_bd h0.1 h0.2
 have ne1 : ∀ j, 0 ≤ j → C.chunk j ≠ 2 + c := fun j j0 => by unfold Cf.chunk; omega
 have inj : ∀ i j, C.chunk i = C.chunk j → i = j := fun i j e => by unfold Cf.chunk at e; omega
 have ld : ∀ a, PlA C c a → PlT C who c A ((A.by who).load a) := fun a ha => ⟨a, ha, .inl rfl⟩
 have pk : ∀ j, 0 ≤ j → j < C.C → PlA C c (C.chunk j) := fun j j0 j1 => .inr ⟨j, j0, j1, rfl⟩
 have po : PlA C c (2 + c) := .inl rfl
 have lw : ∀ a, ((A.by who).load a).w = A.w := fun _ => rfl
 obtain ⟨⟨hc, hok⟩, h⟩ := h
 rcases h with ⟨h2, ⟨p, e, hk⟩ | ⟨p, e1, e2, e3, e4, hk⟩ | ⟨p, g, e1, e2, e3, hk⟩ | ⟨g, e1, e2, e3, hk, hp, hk4⟩⟩ | ⟨g, f, hf, ⟨p, h2, e1, e2, e3, hk⟩ | ⟨h2, ⟨p, e1, e2, e3, hk⟩ | ⟨p, e1, e2, e3, hk⟩ | ⟨p, e1, e2, e3, hk⟩⟩⟩
 ·-- look
  have hw1 : IntKind.i64.wrap (A.w (2 + t.cls)) = A.w (2 + t.cls) := IntWalk.i64_in _ (by rw [hc, h2.o]; omega)
  have es : t.step C who A = (false, (if A.w (2 + t.cls) - 1 < 0 then { t with opn := A.w (2 + t.cls), at' := 0, pc := 3 } else { t with opn := A.w (2 + t.cls), at' := A.w (2 + t.cls) - 1, pc := 1 }), (A.by who).load (2 + t.cls)) := by
   unfold Pl.step; rw [if_pos p]; dsimp only; rw [hw1]
  have tw : 0 ≤ t.w ∧ t.w < 18446744073709551616 := by rw [e]; exact ⟨Int.le_refl 0, (by decide : (0 : Int) < 18446744073709551616)⟩
  rw [es, hc]
  refine ⟨ld _ po, .inl ⟨rfl, ?_⟩⟩
  rw [h2.o]
  by_cases q : w0 (2 + c) - 1 < 0
  ·rw [if_pos q]
   exact ⟨⟨by first | exact hc | rfl, hok⟩, .inl ⟨h2, .inr (.inr (.inr ⟨fun x => by have := x.1; omega, rfl, ⟨Int.le_refl 0, by show (0 : Int) < C.C; omega⟩, fun j j0 j1 => (by have : j < 0 := j1; omega), by show k + 1 ≤ 3 + 0; omega, .inl ⟨rfl, tw⟩, fun _ => by show k + 1 ≤ 2 + 0; omega⟩))⟩⟩
  ·rw [if_neg q]
   exact ⟨⟨by first | exact hc | rfl, hok⟩, .inl ⟨h2, .inr (.inl ⟨rfl, by omega, rfl, rfl, tw, by omega⟩)⟩⟩
 ·-- see
  have hat : 0 ≤ t.at' ∧ t.at' < C.C := by omega
  have ew : A.w (C.chunk t.at') = w0 (C.chunk t.at') := h2.k _ hat.1 hat.2
  have es : t.step C who A = (false, (if chS (A.w (C.chunk t.at')) ≠ 1 ∨ chC (A.w (C.chunk t.at')) ≠ t.cls ∨ C.W < chU (A.w (C.chunk t.at')) + roomOf t.cls then { t with w := A.w (C.chunk t.at'), at' := 0, pc := 3 } else { t with w := A.w (C.chunk t.at'), pc := 2 }), (A.by who).load (C.chunk t.at')) := by
   unfold Pl.step; rw [if_neg (by omega), if_pos p]
  have tw := hT.w _ hat.1 hat.2
  rw [es]
  refine ⟨ld _ (pk _ hat.1 hat.2), .inl ⟨rfl, ?_⟩⟩
  rw [ew, hc]
  by_cases q : chS (w0 (C.chunk t.at')) ≠ 1 ∨ chC (w0 (C.chunk t.at')) ≠ c ∨ C.W < chU (w0 (C.chunk t.at')) + roomOf c
  ·rw [if_pos q]
   exact ⟨⟨by first | exact hc | rfl, hok⟩, .inl ⟨h2, .inr (.inr (.inr ⟨fun x => by obtain ⟨_, x1, x2, x3⟩ := x; rw [← e3] at x1 x2 x3; omega, e2, ⟨Int.le_refl 0, by show (0 : Int) < C.C; omega⟩, fun j j0 j1 => (by have : j < 0 := j1; omega), by show k + 1 ≤ 3 + 0; omega, .inl ⟨rfl, tw⟩, fun _ => by show k + 1 ≤ 2 + 0; omega⟩))⟩⟩
  ·rw [if_neg q]
   exact ⟨⟨by first | exact hc | rfl, hok⟩, .inl ⟨h2, .inr (.inr (.inl ⟨rfl, ⟨by omega, by rw [← e3]; omega, by rw [← e3]; omega, by rw [← e3]; omega⟩, by show 0 ≤ t.opn ∧ t.opn < _; omega, e3, rfl, by omega⟩))⟩⟩
 ·-- get
  have hat : 0 ≤ t.at' ∧ t.at' < C.C := by have := g.1; omega
  have ew : A.w (C.chunk t.at') = t.w := by rw [h2.k _ hat.1 hat.2, e3]
  have es : t.step C who A = (true, { t with pc := 0, sa := C.base t.at' + chU t.w, sc := t.at', ok := true }, (A.by who).store (C.chunk t.at') (putChunk (chS t.w) (chC t.w) (chU t.w + roomOf t.cls) (chN t.w))) := by
   unfold Pl.step; rw [if_neg (by omega), if_neg (by omega), if_pos p]
   dsimp only
   rw [if_pos ew, cas_yes (show (A.by who).w _ = _ from ew), decide_eq_true ew]
  rw [es]
  refine ⟨⟨_, pk _ hat.1 hat.2, .inr ⟨_, putChunk_in _ _ _ _, rfl⟩⟩, .inr ⟨rfl, hc, .inl ⟨g, rfl, e2, by dsimp only; rw [e3], ?_⟩⟩⟩
  obtain ⟨g1, g2, g3, g4⟩ := g
  rw [← e2, ← e3] at g2 g3
  dsimp only
  rw [store_w, g2, g3, hc, e3]
  exact h2.both
 ·rcases hp with ⟨p, tw⟩ | ⟨p, hf, e4⟩
  ·-- scan
   have ew : A.w (C.chunk t.at') = w0 (C.chunk t.at') := h2.k _ e2.1 e2.2
   have tw2 := hT.w _ e2.1 e2.2
   by_cases q : chS (A.w (C.chunk t.at')) ≠ 0
   ·have es : t.step C who A = (decide (C.C ≤ t.at' + 1), { t with w := A.w (C.chunk t.at'), at' := t.at' + 1, pc := 3 }, (A.by who).load (C.chunk t.at')) := by
     unfold Pl.step; rw [if_neg (by omega), if_neg (by omega), if_neg (by omega), if_pos p]
     dsimp only
     rw [if_pos q]; rfl
    have all : ∀ j, 0 ≤ j → j < t.at' + 1 → chS (w0 (C.chunk j)) ≠ 0 := fun j j0 j1 => by
     by_cases ej : j = t.at'
     ·rw [ej, ← ew]; exact q
     ·exact e3 j j0 (by omega)
    rw [es]
    refine ⟨ld _ (pk _ e2.1 e2.2), ?_⟩
    by_cases q2 : C.C ≤ t.at' + 1
    ·exact .inr ⟨decide_eq_true q2, hc, .inr (.inr ⟨g, hok, h2, fun j j0 j1 => all j j0 (by omega)⟩)⟩
    ·exact .inl ⟨decide_eq_false q2, ⟨by first | exact hc | rfl, hok⟩, .inl ⟨h2, .inr (.inr (.inr ⟨g, e1, ⟨by dsimp only; omega, by dsimp only; omega⟩, all, by dsimp only; omega, .inl ⟨by first | rfl | exact p, by dsimp only; rw [ew]; exact tw2⟩, fun _ => by have := hk4 p; dsimp only; omega⟩))⟩⟩
   ·have es : t.step C who A = (false, { t with w := A.w (C.chunk t.at'), pc := 4 }, (A.by who).load (C.chunk t.at')) := by
     unfold Pl.step; rw [if_neg (by omega), if_neg (by omega), if_neg (by omega), if_pos p]
     dsimp only
     rw [if_neg q]
    rw [es]
    have q' : chS (w0 (C.chunk t.at')) = 0 := by rw [← ew]; omega
    exact ⟨ld _ (pk _ e2.1 e2.2), .inl ⟨rfl, ⟨by first | exact hc | rfl, hok⟩, .inl ⟨h2, .inr (.inr (.inr ⟨g, e1, e2, e3, by have := hk4 p; dsimp only; omega, .inr ⟨rfl, ⟨e2, q', hT.n _ e2.1 e2.2 q', e3⟩, ew⟩, fun x => by have x' : (4 : Int) = 3 := x; omega⟩))⟩⟩⟩
  ·-- take
   have ew : A.w (C.chunk t.at') = t.w := by rw [h2.k _ e2.1 e2.2, e4]
   have es : t.step C who A = (false, { t with pc := 5 }, (A.by who).store (C.chunk t.at') t.fresh) := by
    unfold Pl.step; rw [if_neg (by omega), if_neg (by omega), if_neg (by omega), if_neg (by omega), if_pos p, if_pos ew, cas_yes (show (A.by who).w _ = _ from ew)]
   have efr : t.fresh = frT c (chN (w0 (C.chunk t.at'))) := by unfold Pl.fresh frT; rw [hc, e4]
   have tw := hT.w _ e2.1 e2.2
   rw [es]
   refine ⟨⟨_, pk _ e2.1 e2.2, .inr ⟨_, putChunk_in _ _ _ _, rfl⟩⟩, .inl ⟨rfl, ⟨by first | exact hc | rfl, hok⟩, .inr ⟨g, t.at', hf, .inl ⟨rfl, ?_, e1, rfl, by show 0 ≤ t.w ∧ t.w < _; rw [e4]; exact tw, by omega⟩⟩⟩⟩
   dsimp only
   rw [store_w, efr]
   exact h2.both
 ·-- open
  have ew : A.w (2 + t.cls) = t.opn := by
   rw [hc, h2.o, e1]; unfold t1; rw [upd_ne _ _ (Ne.symm (ne1 _ hf.1.1))]
  have es : t.step C who A = (false, { t with pc := 0 }, (A.by who).store (2 + t.cls) (t.at' + 1)) := by
   unfold Pl.step; rw [if_neg (by omega), if_neg (by omega), if_neg (by omega), if_neg (by omega), if_neg (by omega), if_pos p, if_pos ew, cas_yes (show (A.by who).w _ = _ from ew)]
  have hf1 := hf.1
  rw [es, hc, e2]
  refine ⟨⟨_, po, .inr ⟨_, by omega, rfl⟩⟩, .inl ⟨rfl, ⟨by first | exact hc | rfl, hok⟩, .inr ⟨g, f, hf, .inr ⟨?_, .inl ⟨rfl, by show 0 ≤ t.opn ∧ t.opn < _; omega, by dsimp only; omega, e3, by omega⟩⟩⟩⟩⟩
  dsimp only
  rw [store_w]
  exact h2.both
 ·-- look
  have hf1 := hf.1
  have ew : A.w (2 + t.cls) = f + 1 := by rw [hc, h2.o]; unfold t2; rw [upd_same]
  have hw1 : IntKind.i64.wrap (f + 1) = f + 1 := IntWalk.i64_in _ (by omega)
  have es : t.step C who A = (false, { t with opn := f + 1, at' := f, pc := 1 }, (A.by who).load (2 + t.cls)) := by
   unfold Pl.step; rw [if_pos p]; dsimp only; rw [ew, hw1, if_neg (by omega), show f + 1 - 1 = f by omega]
  rw [es, hc]
  exact ⟨ld _ po, .inl ⟨rfl, ⟨by first | exact hc | rfl, hok⟩, .inr ⟨g, f, hf, .inr ⟨h2, .inr (.inl ⟨rfl, by dsimp only; omega, rfl, e3, by omega⟩)⟩⟩⟩⟩
 ·-- see
  have hf1 := hf.1
  have ew : A.w (C.chunk t.at') = frT c (chN (w0 (C.chunk f))) := by
   rw [e2, h2.k _ hf1.1 hf1.2]; unfold t2; rw [upd_ne _ _ (ne1 _ hf1.1)]; unfold t1; rw [upd_same]
  have hN := chN_bd (w0 (C.chunk f))
  have hf2 := hf.2.2.1
  obtain ⟨z1, z2, z3, z4⟩ := ch_put (st := 1) (c := c) (us := 0) (sp := chN (w0 (C.chunk f)) + 1) (by decide) (by omega) (by decide) (by omega)
  have es : t.step C who A = (false, { t with w := frT c (chN (w0 (C.chunk f))), pc := 2 }, (A.by who).load (C.chunk t.at')) := by
   unfold Pl.step; rw [if_neg (by omega), if_pos p]
   dsimp only
   rw [ew, if_neg]
   unfold frT; rw [z1, z2, z3, hc]; omega
  rw [es, e2]
  exact ⟨ld _ (pk _ hf1.1 hf1.2), .inl ⟨rfl, ⟨by first | exact hc | rfl, hok⟩, .inr ⟨g, f, hf, .inr ⟨h2, .inr (.inr ⟨rfl, e1, by first | exact e2 | rfl, rfl, by omega⟩)⟩⟩⟩⟩
 ·-- get
  have hf1 := hf.1
  have ew : A.w (C.chunk t.at') = t.w := by
   rw [e2, e3, h2.k _ hf1.1 hf1.2]; unfold t2; rw [upd_ne _ _ (ne1 _ hf1.1)]; unfold t1; rw [upd_same]
  have hN := chN_bd (w0 (C.chunk f))
  have hf2 := hf.2.2.1
  obtain ⟨z1, z2, z3, z4⟩ := ch_put (st := 1) (c := c) (us := 0) (sp := chN (w0 (C.chunk f)) + 1) (by decide) (by omega) (by decide) (by omega)
  have es : t.step C who A = (true, { t with pc := 0, sa := C.base t.at' + chU t.w, sc := t.at', ok := true }, (A.by who).store (C.chunk t.at') (putChunk (chS t.w) (chC t.w) (chU t.w + roomOf t.cls) (chN t.w))) := by
   unfold Pl.step; rw [if_neg (by omega), if_neg (by omega), if_pos p]
   dsimp only
   rw [if_pos ew, cas_yes (show (A.by who).w _ = _ from ew), decide_eq_true ew]
  rw [es, e3, e2]
  unfold frT
  rw [z1, z2, z3, z4, hc]
  refine ⟨⟨_, pk _ hf1.1 hf1.2, .inr ⟨_, putChunk_in _ _ _ _, rfl⟩⟩, .inr ⟨rfl, by first | exact hc | rfl, .inr (.inl ⟨g, f, hf, rfl, rfl, by dsimp only; omega, ?_⟩)⟩⟩
  dsimp only
  rw [store_w, show 0 + roomOf c = roomOf c by omega]
  exact h2.both
end Go.Fl
namespace Go.Fl
open Go
set_option linter.unusedVariables false
set_option linter.unusedSimpArgs false
variable {N : Nm} {A B : Ar} {σ : Mem} {K : Value → Mem → Prop} {C : Cf} {who : Int}
theorem h65 : hdSl 65536 = 0 ∧ hdGe 65536 = 1 ∧ hdOk 65536 = true := by decide
theorem xExt50 {x y z u v : Value} {K : Value → Prop} : xF (fExt 0) [.tuple #[x, y, z, u, v]] K = K x := nr rfl
theorem xExt51 {x y z u v : Value} {K : Value → Prop} : xF (fExt 1) [.tuple #[x, y, z, u, v]] K = K y := nr rfl
theorem xExt52 {x y z u v : Value} {K : Value → Prop} : xF (fExt 2) [.tuple #[x, y, z, u, v]] K = K z := nr rfl
theorem xExt53 {x y z u v : Value} {K : Value → Prop} : xF (fExt 3) [.tuple #[x, y, z, u, v]] K = K u := nr rfl
theorem xExt54 {x y z u v : Value} {K : Value → Prop} : xF (fExt 4) [.tuple #[x, y, z, u, v]] K = K v := nr rfl
structure Bgn (C : Cf) (z c V : Int) (L : Int → Int) (A : Ar) : Prop where
 sl : A.w (C.slot 0) = putSlot 1 (C.base c) 1 V
 hd : A.w (C.base c) = putHead 2 z 0 1 false
 cl : ∀ x, 0 ≤ x → x < z → A.w (C.base c + 1 + x) = L x ∧ 0 ≤ L x ∧ L x ≤ 65535
 o : A.w (2 + classOf z) = c + 1
 ev : ∀ j, 0 ≤ j → j ≤ c → chS (A.w (C.chunk j)) = 2
 ch : ∀ j, c + 1 ≤ j → j < C.C → A.w (C.chunk j) = 0
 ok : A.ok 2000000
 n : A.n = C.len.toNat
structure BgL (C : Cf) (z : Int) (A : Ar) : Prop where
 nil : ∀ j i, 1 ≤ j → j < C.C → 0 ≤ i → i < C.W → A.w (C.base j + i) = 0
 lv0 : A.w (C.chunk 0 + 1) = roomOf (classOf z)
 lv : ∀ j, 1 ≤ j → j < C.C → A.w (C.chunk j + 1) = 0
 fre : Fre C A.w (upL 0 C.S.toNat).tail
 ok1 : A.ok 1500000
def valW (g : Int → Int) (len : Nat) (x : Int) : Int := if x < len then g x % 65536 else 0
theorem c_begun (hC : (cA 4 8 4 20).ok) {a0 : Int} {s : Value} {len : Nat} {g : Int → Int} (hg : ArgI .i64 σ s len g)
  (hk : ∀ N A τ, N.ok → isA N A τ → Ext σ τ → N.fr σ → Bgn (cA 4 8 4 20) (1 + a0 % 16) 0 0 (valW g len) A → BgL (cA 4 8 4 20) (1 + a0 % 16) A →
   K (.tuple #[N.env (cA 4 8 4 20) 0, .int .u64 65536, .int .i64 ((cA 4 8 4 20).base 0), .agg #[.int .i64 2, .int .i64 (1 + a0 % 16), .int .i64 0, .int .i64 1, .bool false], .bool true]) τ) : s_a8 [.int .i64 a0, s] K σ := by
 have hz : 1 ≤ 1 + a0 % 16 ∧ 1 + a0 % 16 ≤ 16 := by omega
 have g4 : ∀ {k : Nat} {x y z w : Int}, gStore 4 [.pointer (some ⟨k, 0, some 0⟩), .agg #[.int .i64 x, .int .i64 y, .int .i64 z, .int .i64 w]] [.int .i64 0, .int .i64 0, .int .i64 0, .int .i64 0] = some [.int .i64 x, .int .i64 y, .int .i64 z, .int .i64 w] := fun {_ _ _ _ _} => rfl
 have gU : ∀ {k : Nat} {x y z w : Int}, gStore 4 [.pointer (some ⟨k, 0, some 0⟩), .agg #[.int .i64 x, .int .u64 y, .int .i64 z, .int .i64 w]] [.int .i64 0, .int .u64 0, .int .i64 0, .int .i64 0] = some [.int .i64 x, .int .u64 y, .int .i64 z, .int .i64 w] := fun {_ _ _ _ _} => rfl
 have g2 : ∀ {k : Nat} {x y : Int}, gStore 2 [.pointer (some ⟨k, 0, some 0⟩), .agg #[.int .i64 x, .int .i64 y]] [.int .i64 0, .int .i64 0] = some [.int .i64 x, .int .i64 y] := fun {_ _ _} => rfl
 have p0 : ∀ {k : Nat} {x a b c d : Int}, gStore 1 [.pointer (some ⟨k, 0, some 0⟩), .int .i64 x] [.int .i64 a, .int .i64 b, .int .i64 c, .int .i64 d] = some [.int .i64 x, .int .i64 b, .int .i64 c, .int .i64 d] := fun {_ _ _ _ _ _} => rfl
 have p3 : ∀ {k : Nat} {x a b c d : Int}, gStore 1 [.pointer (some ⟨k, 3, some 0⟩), .int .i64 x] [.int .i64 a, .int .i64 b, .int .i64 c, .int .i64 d] = some [.int .i64 a, .int .i64 b, .int .i64 c, .int .i64 x] := fun {_ _ _ _ _ _} => rfl
 have g5 : ∀ {k : Nat} {x y z w : Int} {u : Bool}, gStore 5 [.pointer (some ⟨k, 0, some 0⟩), .agg #[.int .i64 x, .int .i64 y, .int .i64 z, .int .i64 w, .bool u]] [.int .i64 0, .int .i64 0, .int .i64 0, .int .i64 0, .bool false] = some [.int .i64 x, .int .i64 y, .int .i64 z, .int .i64 w, .bool u] := fun {_ _ _ _ _ _} => rfl
 have s5 : ∀ x y z u w : Value, sub [x, y, z, u, w] 0 5 true = some (.agg #[x, y, z, u, w]) := fun _ _ _ _ _ => rfl
 have f1 : ∀ (x y z w : Value) (K : Value → Prop), xF (fFldV 1 1 false) [.agg #[x, y, z, w]] K = K y := fun _ _ _ _ K => nr rfl
 have b5 : ∀ (x y : Int) (K : Value → Prop), xF (fBuild [(0, 1), (1, 1), (2, 1), (3, 1), (4, 1)] [.int .i64 0, .int .u64 0, .int .i64 0, .int .i64 0, .int .i64 0] [0, 1, 2, 3]) [.int .i64 2, .int .u64 65536, .int .i64 x, .int .i64 y] K = K (.agg #[.int .i64 2, .int .u64 65536, .int .i64 x, .int .i64 y, .int .i64 0]) := fun _ _ K => nr rfl
 simp only [s_a8, w_a8, ruS, ruL, ruE, Nat.reduceAdd, reduceIte, Int.reduceLT, Int.reduceLE, Int.reduceEq, Int.reduceNeg, Int.reduceAdd, Int.reduceSub, Nat.reduceLeDiff, Nat.reduceLT]
 refine c_Arena (C := cA 4 8 4 20) hC rfl rfl rfl fun N A τ hN hF hA hE hfr => ?_
 have hCC : (cA 4 8 4 20).C = 4 := rfl
 have hCS : (cA 4 8 4 20).S = 8 := rfl
 have hCT : (cA 4 8 4 20).T = 4 := rfl
 simp only [gStoreE, andI15, ruS, ruL, ruE, Nat.reduceAdd, reduceIte, Int.reduceLT, Int.reduceLE, Int.reduceEq, Int.reduceNeg, Int.reduceAdd, Int.reduceSub, Nat.reduceLeDiff, Nat.reduceLT]
 rw [IntWalk.i64_in (1 + a0 % 16) (by omega)]
 generalize 1 + a0 % 16 = z at *
 generalize hCe : cA 4 8 4 20 = C at *
 have hcl : 0 ≤ classOf z := by unfold classOf; (repeat' split) <;> omega
 have hc3 := (class_bd z).2
 have hr := room_bd hcl hc3
 obtain ⟨sz, szr⟩ := class_room' hcl
 refine c_First hN hC hA hF hcl fun oV oS A2 τ2 hfst hoS hA2 k2 => ?_
 have ext2 := hE.keep' k2 hfr.all
 have hll := len_bd hC
 have hb0 : C.base 0 = 6 + C.T + 2 * C.S + 3 * C.C := by unfold Cf.base; omega
 have hW := hC.W
 simp only [gU, w_a8_j1, w_a8_j1b, ruS, ruL, ruE, Nat.reduceAdd, reduceIte, Int.reduceLT, Int.reduceLE, Int.reduceEq, Int.reduceNeg, Int.reduceAdd, Int.reduceSub, Nat.reduceLeDiff, Nat.reduceLT]
 refine xLoop_i (fun i => [s, .int .i64 z, .int .i64 i]) [N.el C 0, [.int .i64 0, .int .i64 0, .int .i64 0, .int .i64 0, .bool false], [.int .i64 0, .int .u64 65536, .int .i64 oV, .int .i64 oS]] z
  (fun i τ => ∃ A, 0 ≤ i ∧ i ≤ z ∧ i ≤ len ∧ isA N A τ ∧ Ol C A.w 65536 false z (C.base 0) ∧ A.ok (1000000 + 10 * i) ∧ A.n = C.len.toNat ∧ (∀ y, ¬ (C.base 0 + 1 ≤ y ∧ y ≤ C.base 0 + z) → A.w y = A2.w y) ∧
   (∀ x, 0 ≤ x → x < z → A.w (C.base 0 + 1 + x) = if x < i then g x % 65536 else 0) ∧ Ext σ τ) ?_
  ⟨A2, Int.le_refl 0, by omega, by omega, hA2, hfst.ol, by simpa using hfst.pa.ok, hfst.n, fun _ _ => rfl, fun x x0 x1 => by rw [if_neg (by omega)]; exact hfst.cz x x0 x1, ext2⟩
 rintro i τ3 ⟨A3, i0, i1, i2, hA3, hol, hok, hn3, hsame, hcell, ext3⟩ R hR
 have hg3 := hg.keep ext3
 simp only [w_law11_begun_l8, w_law11_begun_l8b, hg3.len, ruS, ruL, ruE, Nat.reduceAdd, reduceIte, Int.reduceLT, Int.reduceLE, Int.reduceEq, Int.reduceNeg, Int.reduceAdd, Int.reduceSub, Nat.reduceLeDiff, Nat.reduceLT]
 -- behind the words
 have fin : (i = z ∨ i = len) → w_a8_j2 K [] [N.el C 0, [.int .i64 0, .int .i64 0, .int .i64 0, .int .i64 0, .bool false], [.int .i64 0, .int .u64 65536, .int .i64 oV, .int .i64 oS]] τ3 := by
  intro hi
  have hT := hC.T
  have esl : C.slot 0 = 6 + C.T := by unfold Cf.slot; omega
  have ech : C.chunk 0 = 6 + C.T + 2 * C.S := by unfold Cf.chunk; omega
  have habd := hol.bd
  have sl3 : A3.w (C.slot 0) = putSlot 1 (C.base 0) 1 0 := by rw [hsame _ (by omega)]; exact hfst.W
  have hd3 : A3.w (C.base 0) = putHead 2 z 0 1 false := by rw [hsame _ (by omega)]; exact hfst.hd
  have hsb : 0 ≤ C.slot 0 ∧ C.slot 0 < A3.n := by omega
  have hcb : 0 ≤ C.chunk 0 ∧ C.chunk 0 < A3.n := by omega
  obtain ⟨p1, p2, p3', p4⟩ := sl_put (st := 1) (ad := C.base 0) (ge := 1) (ve := 0) (by decide) (by omega) (by decide) (by decide)
  have hof : ofC C (C.base 0) = 0 := by
   have := (base_of hC (j := 0) (i := 0) (by omega) (by omega) (by omega) (by omega)).1
   rw [Int.add_zero] at this; exact this
  have hwc := hok.w (C.chunk 0)
  have hN3 := chN_bd (A3.w (C.chunk 0))
  simp only [w_a8_j2, w_a8_j2b, ruS, ruL, ruE, Nat.reduceAdd, reduceIte, Int.reduceLT, Int.reduceLE, Int.reduceEq, Int.reduceNeg, Int.reduceAdd, Int.reduceSub, Nat.reduceLeDiff, Nat.reduceLT]
  rw [c_wHandleG (by decide) (by decide)]
  simp only [g2, h65.1, h65.2.1, h65.2.2, c_Slot hC (Int.le_refl 0) (by decide), c_PeekA hN hA3 hsb.1 hsb.2, sl3, c_wSlot (putSlot_in _ _ _ _).1 (putSlot_in _ _ _ _).2, p1, p2, p3', p4, f1, ruS, ruL, ruE, Nat.reduceAdd, reduceIte, Int.reduceLT, Int.reduceLE, Int.reduceEq, Int.reduceNeg, Int.reduceAdd, Int.reduceSub, Nat.reduceLeDiff, Nat.reduceLT]
  rw [c_Of hC (show C.base 0 < 9223372036854775808 by omega), hof]
  simp only [c_Chunk hC (Int.le_refl 0) (by decide), c_PeekA hN hA3 hcb.1 hcb.2, c_wChunk hwc.1 hwc.2, g4, p0, p3, ruS, ruL, ruE, Nat.reduceAdd, reduceIte, Int.reduceLT, Int.reduceLE, Int.reduceEq, Int.reduceNeg, Int.reduceAdd, Int.reduceSub, Nat.reduceLeDiff, Nat.reduceLT]
  rw [IntWalk.i64_in (chN (A3.w (C.chunk 0)) + 1) (by omega)]
  simp only [p0, p3, sub4, c_PutChunk, ruS, ruL, ruE, Nat.reduceAdd, reduceIte, Int.reduceLT, Int.reduceLE, Int.reduceEq, Int.reduceNeg, Int.reduceAdd, Int.reduceSub, Nat.reduceLeDiff, Nat.reduceLT]
  refine c_StoreA hN hA3 hcb.1 hcb.2 hok (by omega) (putChunk_in _ _ _ _) fun A4 τ4 aft ok4 hA4 k4 => ?_
  have ext4 := ext3.keep' k4 hfr.all
  have ew : A4.w = upd A3.w (C.chunk 0) (putChunk 2 (chC (A3.w (C.chunk 0))) (chU (A3.w (C.chunk 0))) (chN (A3.w (C.chunk 0)) + 1)) := aft.w
  have hd4 : A4.w (C.base 0) = putHead 2 z 0 1 false := by rw [ew, upd_ne _ _ (by omega)]; exact hd3
  have hn4 : A4.n = A3.n := aft.n
  have hbb : 0 ≤ C.base 0 ∧ C.base 0 < A4.n := by omega
  obtain ⟨q1, q2, q3, q4, q5⟩ := hd_put (k := 2) (s := z) (t := 0) (g := 1) (o := false) (by decide) (by omega) (by decide) (by decide)
  simp only [c_PeekA hN hA4 hbb.1 hbb.2, hd4, c_wHead (putHead_in _ _ _ _ _).1 (putHead_in _ _ _ _ _).2, q1, q2, q3, q4, q5, gStoreE, g5, s5, ruS, ruL, ruE, Nat.reduceAdd, reduceIte, Int.reduceLT, Int.reduceLE, Int.reduceEq, Int.reduceNeg, Int.reduceAdd, Int.reduceSub, Nat.reduceLeDiff, Nat.reduceLT]
  have haw := hfst.aw
  have cs : ∀ c, 0 ≤ c → A4.w (C.base 0 + 1 + c) = A3.w (C.base 0 + 1 + c) := fun c c0 => by rw [ew, upd_ne _ _ (by omega)]
  have cl : chS (putChunk 2 (chC (A3.w (C.chunk 0))) (chU (A3.w (C.chunk 0))) (chN (A3.w (C.chunk 0)) + 1)) = 2 := by unfold chS putChunk cl; omega
  have elo : ∀ y, y < C.base 0 → y ≠ C.chunk 0 → A4.w y = A2.w y := fun y y0 y1 => by rw [ew, upd_ne _ _ y1]; exact hsame y (by omega)
  have ek : ∀ j, C.chunk j = C.chunk 0 + 3 * j := fun j => by unfold Cf.chunk; omega
  have u1 : ∀ j, 1 ≤ j → upd (fun _ => (0 : Int)) 0 (roomOf (classOf z)) j = 0 := fun j j1 => upd_ne _ _ (by omega)
  refine hk N A4 τ4 hN hA4 ext4 hfr ⟨by rw [elo _ (by omega) (by omega)]; exact hfst.W, hd4, fun x x0 x1 => ?_, ?_, fun j j0 j1 => ?_, fun j j0 j1 => ?_, ok_mono ok4 (by omega), hn4.trans hn3⟩ ⟨fun j k j0 j1 k0 k1 => ?_, ?_, fun j j0 j1 => ?_, ?_, ok_mono ok4 (by omega)⟩
  ·rw [cs x x0, hcell x x0 x1]
   unfold valW
   by_cases c : x < i
   ·rw [if_pos c, if_pos (by omega)]; omega
   ·rw [if_neg c, if_neg (by omega)]; omega
  ·rw [elo _ (by omega) (by omega)]
   have := (haw.alo.op (classOf z) hcl hc3).1
   rw [this]; show upd (fun _ => (-1 : Int)) (classOf z) 0 (classOf z) + 1 = 0 + 1; rw [upd_same]
  ·rw [show j = 0 by omega, ew, upd_same]; exact cl
  ·rw [elo _ (by rw [ek]; omega) (by rw [ek]; omega)]; exact (haw.alo.new j (by show (1 : Int) ≤ j; omega) j1).1
  ·have hm := mulW hC (k := j) (by omega) (by omega)
   have hbj : C.base j = C.base 0 + C.W * j := by unfold Cf.base; omega
   have hmj : C.W * 1 ≤ C.W * j := Int.mul_le_mul_of_nonneg_left (by omega) (by omega)
   rw [ew, upd_ne _ _ (by omega), hsame _ (by omega)]
   exact haw.nil j k (by omega) j1 (by show upd (fun _ => (0 : Int)) 0 _ j ≤ k; rw [u1 j j0]; exact k0) k1
  ·rw [elo _ (by omega) (by omega), haw.live 0 (by omega) (by omega)]; exact upd_same (fun _ => 0) 0 _
  ·rw [elo _ (by rw [ek]; omega) (by rw [ek]; omega), haw.live j (by omega) j1]; exact u1 j j0
  ·refine haw.fre.congr (elo 1 (by omega) (by omega)) fun s s0 s1 => elo _ (by unfold Cf.slot; omega) (by unfold Cf.slot; omega)
 by_cases c1 : i < z
 ·by_cases c2 : i < len
  ·simp only [c1, c2, w_a8_j3, w_a8_j3b, ruS, ruL, ruE, Nat.reduceAdd, reduceIte, Int.reduceLT, Int.reduceLE, Int.reduceEq, Int.reduceNeg, Int.reduceAdd, Int.reduceSub, Nat.reduceLeDiff, Nat.reduceLT]
   rw [hg3.ix i0 c2]
   simp only [andI65535, b5, ruS, ruL, ruE, Nat.reduceAdd, reduceIte, Int.reduceLT, Int.reduceLE, Int.reduceEq, Int.reduceNeg, Int.reduceAdd, Int.reduceSub, Nat.reduceLeDiff, Nat.reduceLT]
   refine c_AccL hN hC hA3 hol hok (by omega) (by omega) (by omega) fun m A4 τ4 hD hA4 k4 => ?_
   have ext4 := ext3.keep' k4 hfr.all
   rw [IntWalk.i64_in (i + 1) (by omega)]
   have hv : 0 ≤ g i % 65536 ∧ g i % 65536 ≤ 65535 := by omega
   have ew : A4.w = upd A3.w (C.base 0 + 1 + i) (g i % 65536) := by
    rcases hD.r with ⟨q, _⟩ | ⟨_, _, _, ⟨q, _⟩ | ⟨_, _, _, q⟩⟩
    ·exact absurd ⟨i0, c1⟩ q
    ·rcases q with q | ⟨q, _⟩ <;> cases q
    ·rw [q]
     show upd A3.w (C.base 0 + 1 + i) (putCell (g i % 65536) false 0) = _
     rw [putCell_lay (by omega)]
   refine hR _ c1 ⟨A4, by omega, by omega, by omega, hA4, ?_, ok_mono (hD.ok _ hok) (by omega), hD.n.trans hn3, fun y hy => ?_, fun x x0 x1 => ?_, ext4⟩
   ·rw [ew, ← putCell_lay (v := g i % 65536) (by omega)]; exact hol.lay hC i0 c1
   ·rw [ew, upd_ne _ _ (by omega)]; exact hsame y hy
   ·rw [ew]
    by_cases e : x = i
    ·subst e; rw [upd_same, if_pos (by omega)]
    ·rw [upd_ne _ _ (by omega), hcell x x0 x1]
     by_cases c : x < i
     ·rw [if_pos c, if_pos (by omega)]
     ·rw [if_neg c, if_neg (by omega)]
  ·simp only [c1, c2, ruS, ruL, ruE, Nat.reduceAdd, reduceIte, Int.reduceLT, Int.reduceLE, Int.reduceEq, Int.reduceNeg, Int.reduceAdd, Int.reduceSub, Nat.reduceLeDiff, Nat.reduceLT]
   exact fin (.inr (by omega))
 ·simp only [c1, ruS, ruL, ruE, Nat.reduceAdd, reduceIte, Int.reduceLT, Int.reduceLE, Int.reduceEq, Int.reduceNeg, Int.reduceAdd, Int.reduceSub, Nat.reduceLeDiff, Nat.reduceLT]
  exact fin (.inl (by omega))
theorem c_awake11 : s_a6 [] K σ = K (.bool true) σ := by unfold s_a6; exact nr rfl
end Go.Fl
namespace Go.Fl
open Go
set_option linter.unusedVariables false
set_option linter.unusedSimpArgs false
variable {N : Nm} {A B : Ar} {σ : Mem} {K : Value → Mem → Prop} {C : Cf} {who : Int}
def Fzd (v x : Int) : Prop := ceF x = true ∧ ceN x = v
end Go.Fl
namespace Go.Fl
open Go
set_option linter.unusedVariables false
set_option linter.unusedSimpArgs false
variable {N : Nm} {A B : Ar} {σ : Mem} {K : Value → Mem → Prop} {C : Cf} {who : Int}
structure Geo (C : Cf) (z c : Int) : Prop where
 hC : C.ok
 hz : 0 ≤ classOf z
 hc : 0 ≤ c ∧ c + 1 < C.C
 hR : C.R = 3
structure Geq (C : Cf) (z c : Int) : Prop where
 zb : 1 ≤ z ∧ z ≤ 16
 kb : 0 ≤ classOf z ∧ classOf z ≤ 3
 rb : z + 1 ≤ roomOf (classOf z) ∧ roomOf (classOf z) ≤ 17
 nb : C.base (c + 1) = C.base c + C.W
 Wb : 17 ≤ C.W
 b0 : 6 + C.T + 2 * C.S + 3 * C.C ≤ C.base c ∧ C.base 0 = 6 + C.T + 2 * C.S + 3 * C.C
 l1 : C.base c + 2 * C.W ≤ C.len
 l2 : C.len ≤ 200000
 s : C.slot 0 = 6 + C.T
 ch : ∀ j, C.chunk j = 6 + C.T + 2 * C.S + 3 * j
 Tb : 1 ≤ C.T ∧ C.T ≤ 8
 Sb : 1 ≤ C.S ∧ C.S ≤ 65536
 Cb : 1 ≤ C.C ∧ C.C ≤ 64
 of : ofC C (C.base c) = c
theorem Geo.eq {z c : Int} (g : Geo C z c) : Geq C z c := by
 have hC := g.hC
 have hz := class_room' g.hz
 have h3 := (class_bd z).2
 have hr := room_bd g.hz h3
 have hT := hC.T; have hS := hC.S; have hCC := hC.C; have hW := hC.W; have hl := len_bd hC
 have hc := g.hc
 have hm := mulW hC hc.1 (by omega)
 have hb : C.base (c + 1) = C.base c + C.W := by unfold Cf.base; rw [Int.mul_add]; omega
 have hlen : C.base (c + 1) + (C.W - 1) < C.len := (base_of hC (j := c + 1) (i := C.W - 1) (by omega) (by omega) (by omega) (by omega)).2.2
 have hof := (base_of hC (j := c) (i := 0) hc.1 (by omega) (by omega) (by omega)).1
 rw [Int.add_zero] at hof
 exact ⟨hz.1, ⟨g.hz, h3⟩, by omega, hb, hW.1, ⟨by unfold Cf.base; omega, by unfold Cf.base; omega⟩, by omega, hl.2, by unfold Cf.slot; omega, fun j => rfl, hT, hS, hCC, hof⟩
structure TbM (C : Cf) (z c : Int) (T : Int → Int) : Prop where
 tb : Tb C (classOf z) T
 o : T (2 + classOf z) = c + 1
 ev : ∀ j, 0 ≤ j → j ≤ c → chS (T (C.chunk j)) = 2
 nx : T (C.chunk (c + 1)) = 0
def T3 (C : Cf) (z c : Int) (T : Int → Int) : Int → Int := upd (t2 C (classOf z) (c + 1) T) (C.chunk (c + 1)) (putChunk 1 (classOf z) (roomOf (classOf z)) (chN (T (C.chunk (c + 1))) + 1))
def ClA (C : Cf) (z c : Int) (L : Int → Int) (V st : Int) (w : Int → Int) : Prop :=
 ∀ x, 0 ≤ x → x < z → ceV (w (C.base c + 1 + x)) = L x ∧ (ceF (w (C.base c + 1 + x)) = true → ceN (w (C.base c + 1 + x)) ≤ V ∧ (st = 1 → ceN (w (C.base c + 1 + x)) < V))
def Cn (C : Cf) (z c : Int) (x y : Int) (w : Int → Int) : Prop := w (C.chunk c + 1) = x ∧ w (C.chunk (c + 1) + 1) = y
def Rnd (C : Cf) (z c : Int) (L : Int → Int) (V st q : Int) (m : Mv) (w : Int → Int) : Prop :=
 ∃ Vm, m.a.w = putSlot 1 (C.base c) 1 Vm ∧ 0 ≤ Vm ∧ Vm ≤ 4194301 ∧
  (m.a.pc = 4 ∧ m.a.i < z ∨ m.a.pc = 5 ∧ m.a.i < z ∨ m.a.pc = 6 ∧ m.a.i < z ∨ m.a.pc = 7 ∧ m.a.i = z) ∧
  (st = 2 ∧ V = Vm ∧ (∀ x, 0 ≤ x → x < m.a.i → Fzd V (w (C.base c + 1 + x)) ∧ w (C.base (c + 1) + 1 + x) = L x) ∧ (m.a.pc = 6 → Fzd V (w (C.base c + 1 + m.a.i)) ∧ ceV m.a.cell = L m.a.i) ∨ st = 1 ∧ Vm < V) ∧
  (3 * (z - m.a.i) + 1 + (if m.a.pc = 5 then (if w (C.base c + 1 + m.a.i) = m.a.cell then -1 else 1) else if m.a.pc = 6 then -2 else 0) + (if st = 2 then 4 else 3 * z + 12) ≤ q)
structure MI (P : Prop) (C : Cf) (z c : Int) (T L : Int → Int) (V st : Int) (loc : Bool) (q : Int) (m : Mv) (w : Int → Int) : Prop where
  con : m.a.addr = C.base c ∧ m.a.hk = 2 ∧ m.a.hz = z ∧ m.a.hs = 0 ∧ m.a.hg = 1 ∧ m.a.ho = false
  wb : 0 ≤ m.a.w ∧ m.a.w < 18446744073709551616
  cb : 0 ≤ m.a.cell ∧ m.a.cell < 18446744073709551616
  ib : 0 ≤ m.a.i ∧ m.a.i ≤ z
  nb : 0 ≤ m.a.nn ∧ m.a.nn ≤ 3
  vb : 0 ≤ V ∧ V ≤ 4194303
  sl : w (C.slot 0) = putSlot st (if loc = true then C.base (c + 1) else C.base c) 1 V
  hda : w (C.base c) = putHead 2 z 0 1 false
  ph : (loc = false ∧ ClA C z c L V st w ∧ (P → Cn C z c (roomOf (classOf z)) 0 w) ∧
      (st = 1 ∧ m.a.got = false ∧ m.a.nn = 0 ∧ (m.a.pc = 0 ∧ Cw C (classOf z) w T ∧ 3 * z + 40 + c ≤ q ∨ m.a.pc = 1 ∧ m.a.w = putSlot 1 (C.base c) 1 V ∧ V ≤ 4194301 ∧ ∃ k, PlG C (classOf z) T k m.t w ∧ 0 ≤ k ∧ 3 * z + 39 + c - k ≤ q ∧ k ≤ 10 + c) ∨
       m.a.got = true ∧ (m.a.sa = C.base (c + 1) ∧ m.a.sc = c + 1) ∧ Cw C (classOf z) w (T3 C z c T) ∧
        (st = 1 ∧ m.a.pc = 2 ∧ m.a.w = putSlot 1 (C.base c) 1 V ∧ V ≤ 4194301 ∧ m.a.nn = 0 ∧ 3 * z + 9 ≤ q ∨
         w (C.base (c + 1)) = putHead 1 z 0 1 false ∧
          (st = 1 ∧ m.a.pc = 3 ∧ m.a.w = putSlot 1 (C.base c) 1 V ∧ V ≤ 4194301 ∧ m.a.nn ≤ 2 ∧ 3 * z + 6 ≤ q ∨
           st = 1 ∧ m.a.pc = 0 ∧ m.a.nn ≤ 2 ∧ 3 * z + 9 ≤ q ∨
           m.a.nn ≤ 2 ∧ Rnd C z c L V st q m w ∨
           st = 1 ∧ m.a.pc = 11 ∧ m.a.out = 3 ∧ 1 ≤ q)))) ∨
    (loc = true ∧ st = 1 ∧ 1 ≤ V ∧ m.a.got = true ∧ (m.a.sa = C.base (c + 1) ∧ m.a.sc = c + 1) ∧ Cw C (classOf z) w (T3 C z c T) ∧
      (∀ x, 0 ≤ x → x < z → Fzd (V - 1) (w (C.base c + 1 + x)) ∧ w (C.base (c + 1) + 1 + x) = L x ∧ 0 ≤ L x ∧ L x ≤ 1099511627775) ∧
      (m.a.pc = 8 ∧ w (C.base (c + 1)) = putHead 1 z 0 1 false ∧ (P → Cn C z c (roomOf (classOf z)) 0 w) ∧ 3 ≤ q ∨
       w (C.base (c + 1)) = putHead 2 z 0 1 false ∧ (m.a.pc = 9 ∧ (P → Cn C z c (roomOf (classOf z)) 0 w) ∧ 2 ≤ q ∨ m.a.pc = 10 ∧ (P → Cn C z c (roomOf (classOf z)) (roomOf (classOf z)) w) ∧ 1 ≤ q)))
structure MD (P : Prop) (C : Cf) (z c : Int) (T L : Int → Int) (V : Int) (loc : Bool) (m : Mv) (w : Int → Int) : Prop where
 con : m.a.addr = C.base c
 vb : 0 ≤ V ∧ V ≤ 4194303
 sl : w (C.slot 0) = putSlot 1 (if loc = true then C.base (c + 1) else C.base c) 1 V
 hda : w (C.base c) = putHead 2 z 0 1 false
 r : loc = true ∧ m.a.out = 1 ∧ 1 ≤ V ∧ m.a.got = true ∧ (m.a.sa = C.base (c + 1) ∧ m.a.sc = c + 1) ∧ Cw C (classOf z) w (T3 C z c T) ∧ (∀ x, 0 ≤ x → x < z → Fzd (V - 1) (w (C.base c + 1 + x)) ∧ w (C.base (c + 1) + 1 + x) = L x ∧ 0 ≤ L x ∧ L x ≤ 1099511627775) ∧
    w (C.base (c + 1)) = putHead 2 z 0 1 false ∧ (P → Cn C z c 0 (roomOf (classOf z)) w) ∨
   loc = false ∧ m.a.out = 3 ∧ ClA C z c L V 1 w
theorem MI.mono {P : Prop} {z c V st q q' : Int} {T L : Int → Int} {loc : Bool} {m : Mv} {w : Int → Int} (h : MI P C z c T L V st loc q m w) (hq : q ≤ q') : MI P C z c T L V st loc q' m w := by
 refine ⟨h.con, h.wb, h.cb, h.ib, h.nb, h.vb, h.sl, h.hda, ?_⟩
 rcases h.ph with ⟨e, hc, hn, h⟩ | ⟨e1, e2, e3, e4, e5, e6, e7, h⟩
 ·refine .inl ⟨e, hc, hn, ?_⟩
  rcases h with ⟨g1, g2, g3, ⟨g4, g5, g6⟩ | ⟨g4, g5, g6, k, g7, g8, g9, g10⟩⟩ | ⟨g1, g2, g3, ⟨g4, g5, g6, g7, g8, g9⟩ | ⟨g4, h⟩⟩
  ·exact .inl ⟨g1, g2, g3, .inl ⟨g4, g5, by omega⟩⟩
  ·exact .inl ⟨g1, g2, g3, .inr ⟨g4, g5, g6, k, g7, g8, by omega, g10⟩⟩
  ·exact .inr ⟨g1, g2, g3, .inl ⟨g4, g5, g6, g7, g8, by omega⟩⟩
  ·refine .inr ⟨g1, g2, g3, .inr ⟨g4, ?_⟩⟩
   rcases h with ⟨h1, h2, h3, h4, h5, h6⟩ | ⟨h1, h2, h3, h4⟩ | ⟨h1, Vm, h2, h3, h4, h5, h6, h7⟩ | ⟨h1, h2, h3, h4⟩
   ·exact .inl ⟨h1, h2, h3, h4, h5, by omega⟩
   ·exact .inr (.inl ⟨h1, h2, h3, by omega⟩)
   ·exact .inr (.inr (.inl ⟨h1, Vm, h2, h3, h4, h5, h6, by omega⟩))
   ·exact .inr (.inr (.inr ⟨h1, h2, h3, by omega⟩))
 ·refine .inr ⟨e1, e2, e3, e4, e5, e6, e7, ?_⟩
  rcases h with ⟨h1, h2, h3, h4⟩ | ⟨h1, ⟨h2, h3, h4⟩ | ⟨h2, h3, h4⟩⟩
  ·exact .inl ⟨h1, h2, h3, by omega⟩
  ·exact .inr ⟨h1, .inl ⟨h2, h3, by omega⟩⟩
  ·exact .inr ⟨h1, .inr ⟨h2, h3, by omega⟩⟩
structure Tm (C : Cf) (z c : Int) (A A' : Ar) (m' : Mv) : Prop where
 s : A'.s = A.s + 1
 n : A'.n = A.n
 ok : ∀ bb, A.ok bb → bb < 4611686018427387904 → A'.ok (bb + 1)
 la : 0 ≤ A'.la ∧ A'.la < C.len
 k9 : A'.la < C.base 0 ∨ A'.lc = false ∨ (C.base c < A'.la ∧ A'.la ≤ C.base c + z) ∨ m'.a.got = true ∧ m'.a.sa ≤ A'.la ∧ A'.la ≤ m'.a.sa + z
theorem TbM.ngd {z c : Int} {T : Int → Int} (h : TbM C z c T) (hc : 0 ≤ c) : ¬ gdT C (classOf z) T := by
 rintro ⟨_, h1, _⟩
 rw [h.o, show c + 1 - 1 = c by omega, h.ev c hc (Int.le_refl _)] at h1
 omega
theorem TbM.ff {z c f : Int} {T : Int → Int} (h : TbM C z c T) (hc : 0 ≤ c) (hf : ffT C T f) : f = c + 1 := by
 obtain ⟨f1, f2, f3, f4⟩ := hf
 by_cases a : f ≤ c
 ·rw [h.ev f f1.1 a] at f2; omega
 ·by_cases b : c + 1 < f
  ·have := f4 (c + 1) (by omega) b
   rw [h.nx] at this
   exact absurd rfl this
  ·omega
theorem MI.fit {P : Prop} {z c V st q : Int} {T L : Int → Int} {loc : Bool} {m : Mv} (g : Geo C z c) (h : MI P C z c T L V st loc q m A.w) (hT : TbM C z c T) (hn : C.len ≤ A.n) (hn2 : (A.n : Int) ≤ 200000000) : m.fit C A := by
 have e := g.eq
 have ez := e.zb; have ek := e.kb; have er := e.rb; have eb := e.nb; have eW := e.Wb; have eb0 := e.b0; have el := e.l1; have eC := e.Cb; have eS := e.Sb; have eT := e.Tb; have ec := g.hc
 obtain ⟨c1, c2, c3, c4, c5, c6⟩ := h.con
 have hib := h.ib
 have hnb := h.nb
 have pcs : (0 ≤ m.a.pc ∧ m.a.pc ≤ 11) ∧ (m.a.pc = 1 → m.t.fit C ∧ A.w (2 + m.t.cls) ≤ C.C) ∧ (m.a.pc = 4 ∨ m.a.pc = 5 ∨ m.a.pc = 6 → m.a.i < z) ∧ (m.a.pc = 2 ∨ m.a.pc = 6 ∨ m.a.pc = 8 ∨ m.a.pc = 9 ∨ m.a.pc = 11 → m.a.sa = C.base (c + 1) ∧ m.a.sc = c + 1) := by
  rcases h.ph with ⟨_, _, _, ⟨g1, g2, g3, ⟨g4, _⟩ | ⟨g4, _, _, k, g7, _⟩⟩ | ⟨g1, g2, g3, ⟨_, g4, _⟩ | ⟨_, ⟨_, g4, _⟩ | ⟨_, g4, _⟩ | ⟨_, Vm, _, _, _, g4, _⟩ | ⟨_, g4, _⟩⟩⟩⟩ | ⟨_, _, _, _, g2, _, _, ⟨g4, _⟩ | ⟨_, ⟨g4, _⟩ | ⟨g4, _⟩⟩⟩
  ·exact ⟨by omega, fun x => by omega, fun x => by omega, fun x => by omega⟩
  ·exact ⟨by omega, fun _ => g7.fit g.hC hT.tb, fun x => by omega, fun x => by omega⟩
  ·exact ⟨by omega, fun x => by omega, fun x => by omega, fun _ => g2⟩
  ·exact ⟨by omega, fun x => by omega, fun x => by omega, fun _ => g2⟩
  ·exact ⟨by omega, fun x => by omega, fun x => by omega, fun _ => g2⟩
  ·exact ⟨by omega, fun x => by omega, fun x => by omega, fun _ => g2⟩
  ·exact ⟨by omega, fun x => by omega, fun x => by omega, fun _ => g2⟩
  ·exact ⟨by omega, fun x => by omega, fun x => by omega, fun _ => g2⟩
  ·exact ⟨by omega, fun x => by omega, fun x => by omega, fun _ => g2⟩
  ·exact ⟨by omega, fun x => by omega, fun x => by omega, fun _ => g2⟩
 obtain ⟨p1, p2, p3, p4⟩ := pcs
 refine ⟨p1, by rw [c4]; omega, h.wb, h.cb, by rw [c3]; exact g.hz, by omega, by omega, hn2, p2, fun x => ?_, fun x => ?_, fun x => ?_, fun x => ?_, fun x => ?_⟩
 ·have := p4 (by omega); omega
 ·have := p3 (by omega); rw [c1]; omega
 ·have := p3 (by omega); have := p4 (by omega); omega
 ·have := p4 (by omega); omega
 ·rw [c1, e.of]; omega
end Go.Fl
namespace Go.Fl
open Go
set_option linter.unusedVariables false
set_option linter.unusedSimpArgs false
variable {N : Nm} {A B : Ar} {σ : Mem} {K : Value → Mem → Prop} {C : Cf} {who : Int}
theorem endm_got {a : Mo} {e : Int} (h : a.got = true) : a.endm e = { a with out := e, pc := 11 } := by unfold Mo.endm; rw [if_pos h]
structure Cln (m : Mv) (V st : Int) : Prop where
 n : m.a.nn = 0
 p : m.a.pc ≠ 11
 p0 : m.a.pc = 0 → m.a.got = false ∧ V ≤ 4194301
 r : 4 ≤ m.a.pc → m.a.pc ≤ 7 → st = 2
theorem ClA.upd {z c V st y v : Int} {L : Int → Int} {w : Int → Int} (h : ClA C z c L V st w) (hy : y ≤ C.base c ∨ C.base c + z < y) : ClA C z c L V st (upd w y v) := fun x x0 x1 => by
 rw [upd_ne _ _ (by omega)]; exact h x x0 x1
theorem ClA.st {z c V V' st st' : Int} {L : Int → Int} {w : Int → Int} (h : ClA C z c L V st w) (hV : V ≤ V') (hs : st' = 1 → st = 1 ∨ V < V') : ClA C z c L V' st' w := fun x x0 x1 => by
 obtain ⟨h1, h2⟩ := h x x0 x1
 refine ⟨h1, fun e => ?_⟩
 obtain ⟨h3, h4⟩ := h2 e
 refine ⟨by omega, fun e1 => ?_⟩
 rcases hs e1 with q | q
 ·have := h4 q; omega
 ·omega
theorem Cn.upd {z c x y a v : Int} {w : Int → Int} (h : Cn C z c x y w) (h1 : a ≠ C.chunk c + 1) (h2 : a ≠ C.chunk (c + 1) + 1) : Cn C z c x y (upd w a v) :=
 ⟨by rw [upd_ne _ _ (Ne.symm h1)]; exact h.1, by rw [upd_ne _ _ (Ne.symm h2)]; exact h.2⟩
theorem Geq.cw {z c y v : Int} {w T : Int → Int} (e : Geq C z c) (h : Cw C (classOf z) w T) (hy : y = C.slot 0 ∨ C.base c ≤ y ∨ y = C.chunk c + 1 ∨ y = C.chunk (c + 1) + 1) (hc : 0 ≤ c) : Cw C (classOf z) (upd w y v) T := by
 have ek := e.kb; have eb0 := e.b0; have es := e.s; have eT := e.Tb; have eS := e.Sb; have eC := e.Cb; have ech := e.ch; have eW := e.Wb; have enb := e.nb
 have e1 := ech c; have e2 := ech (c + 1)
 refine h.upd (by omega) fun j j0 j1 => ?_
 have := ech j
 omega
theorem MI.step {P : Prop} {z c V st q bb : Int} {T L : Int → Int} {loc : Bool} {m : Mv} (g : Geo C z c) (h : MI P C z c T L V st loc q m A.w) (hT : TbM C z c T) (ok : A.ok bb) (hb : bb < 4611686018427387904) :
    Tm C z c A (m.step C who A).2.2 (m.step C who A).2.1 ∧
    ((m.step C who A).1 = false ∧ (∃ V' st' loc', MI P C z c T L V' st' loc' (q - 1) (m.step C who A).2.1 (m.step C who A).2.2.w ∧ (loc' = loc ∧ V' = V ∨ loc = false ∧ loc' = true ∧ V' = V + 1) ∧ (Cln m V st → Cln (m.step C who A).2.1 V' st')) ∨
     (m.step C who A).1 = true ∧ MD P C z c T L V loc (m.step C who A).2.1 (m.step C who A).2.2.w ∧ (Cln m V st → (m.step C who A).2.1.a.out = 1)) := by
  have hC := g.hC
  have e := g.eq
  have ez := e.zb; have ek := e.kb; have er := e.rb; have eb := e.nb; have eW := e.Wb; have eb0 := e.b0; have el := e.l1; have el2 := e.l2; have eC := e.Cb; have eS := e.Sb; have eT := e.Tb; have ec := g.hc; have es := e.s
  have ech1 := e.ch c; have ech2 := e.ch (c + 1)
  have eR := g.hR
  obtain ⟨c1, c2, c3, c4, c5, c6⟩ := h.con
  have hwb := h.wb; have hcb := h.cb; have hib := h.ib; have hnb := h.nb; have hvb := h.vb; have hsl := h.sl; have hda := h.hda
  have tl : ∀ x m', 0 ≤ x → x < C.len → Tm C z c A ((A.by who).load x) m' := fun x m' x0 x1 => by
    have a1 := aft_load (who := who) (A := A) (a := x) ok (by omega)
    exact ⟨a1.s, rfl, fun b2 o2 hb2 => a1.ok (by omega) o2 o2.w, ⟨x0, x1⟩, .inr (.inl rfl)⟩
  have ts : ∀ y v (m' : Mv), 0 ≤ y → y < C.len → (0 ≤ v ∧ v < 18446744073709551616) → (y < C.base 0 ∨ C.base c < y ∧ y ≤ C.base c + z ∨ m'.a.got = true ∧ m'.a.sa ≤ y ∧ y ≤ m'.a.sa + z) → Tm C z c A ((A.by who).store y v) m' := fun y v m' y0 y1 hv hy => by
    have a1 := aft_store (who := who) (A := A) (a := y) (v := v) ok (by omega)
    refine ⟨a1.s, a1.n, fun b2 o2 hb2 => a1.ok (by omega) o2 fun i => upd_cases (P := fun x => 0 ≤ x ∧ x < 18446744073709551616) hv (ok.w i), ⟨y0, y1⟩, ?_⟩
    rcases hy with q | q | q
    · exact .inl q
    · exact .inr (.inr (.inl q))
    · exact .inr (.inr (.inr q))
  have sw : ∀ y v, ((A.by who).store y v).w = upd A.w y v := fun y v => store_w
  have adb : C.base c ≤ 1048575 ∧ C.base (c + 1) ≤ 1048575 := by omega
  have hsb : 0 ≤ C.slot 0 ∧ C.slot 0 < C.len := by omega
  have spa : ∀ st' V', (0 ≤ st' ∧ st' ≤ 7) → (0 ≤ V' ∧ V' ≤ 4194303) → slS (putSlot st' (C.base c) 1 V') = st' ∧ slA (putSlot st' (C.base c) 1 V') = C.base c ∧ slG (putSlot st' (C.base c) 1 V') = 1 ∧ slV (putSlot st' (C.base c) 1 V') = V' := fun st' V' h1 h2 => sl_put h1 (by omega) (by decide) h2
  -- the slot's word as it is seen
  have seen : loc = false → st = 1 → slS (A.w (C.slot m.a.hs)) = 1 ∧ slA (A.w (C.slot m.a.hs)) = C.base c ∧ slG (A.w (C.slot m.a.hs)) = 1 ∧ slV (A.w (C.slot m.a.hs)) = V := fun q1 q2 => by
    rw [c4, hsl, q1, if_neg (by decide), q2]; exact spa 1 V (by decide) hvb
  rcases h.ph with ⟨hloc, hcl, hcn, ⟨g1, g2, g3, ⟨p, g4, g5⟩ | ⟨p, g4, g5, k, g6, g7, g8, g9⟩⟩ | ⟨g1, ⟨g2, g3⟩, g4, ⟨g5, p, g6, g7, g8, g9⟩ | ⟨hb1, ⟨g5, p, g6, g7, g8, g9⟩ | ⟨g5, p, g6, g7⟩ | ⟨g5, Vm, g6, g7, g8, g9, g10, g11⟩ | ⟨g5, p, g6, g7⟩⟩⟩⟩ | ⟨hloc, g1, g2, g3, ⟨g4, g5⟩, g6, g7, ⟨p, g8, g9, g10⟩ | ⟨g8, ⟨p, g9, g10⟩ | ⟨p, g9, g10⟩⟩⟩
  · -- seeing, at first
    obtain ⟨s1, s2, s3, s4⟩ := seen hloc g1
    have n1 : ¬ (slS (A.w (C.slot m.a.hs)) = 4 ∧ slG (A.w (C.slot m.a.hs)) = m.a.hg ∧ slA (A.w (C.slot m.a.hs)) = m.a.addr) := by rw [s1]; omega
    have n2 : ¬ (slS (A.w (C.slot m.a.hs)) ≠ 1 ∨ slG (A.w (C.slot m.a.hs)) ≠ m.a.hg ∨ slA (A.w (C.slot m.a.hs)) ≠ m.a.addr) := by rw [s1, s2, s3, c1, c5]; simp
    have hws := ok.w (C.slot m.a.hs)
    by_cases cv : 4194302 ≤ V
    · have es1 : m.step C who A = (!m.a.got, { m with a := ({ m.a with w := A.w (C.slot m.a.hs) } : Mo).endm 3 }, (A.by who).load (C.slot m.a.hs)) := by
        unfold Mv.step; rw [if_pos p, if_neg n1, if_neg n2, if_pos (by rw [s4]; exact cv)]
      rw [es1, g2]
      refine ⟨tl _ _ (by rw [c4]; omega) (by rw [c4]; omega), .inr ⟨rfl, ⟨c1, hvb, by have qq := hsl; rw [g1] at qq; exact qq, hda, .inr ⟨hloc, rfl, by have qq := hcl; rw [g1] at qq; exact qq⟩⟩, fun q => ?_⟩⟩
      have := (q.p0 p).2; omega
    · have es1 : m.step C who A = (false, ⟨{ m.a with w := A.w (C.slot m.a.hs), pc := 1 }, Pl.new (classOf m.a.hz)⟩, (A.by who).load (C.slot m.a.hs)) := by
        unfold Mv.step; rw [if_pos p, if_neg n1, if_neg n2, if_neg (by rw [s4]; exact cv), if_neg (by rw [g2]; decide)]
      rw [es1]
      refine ⟨tl _ _ (by rw [c4]; omega) (by rw [c4]; omega), .inl ⟨rfl, V, st, loc, ⟨h.con, hws, hcb, hib, hnb, hvb, hsl, hda, .inl ⟨hloc, hcl, hcn, .inl ⟨g1, g2, g3, .inr ⟨rfl, ?_, by omega, 0, ?_, Int.le_refl 0, by omega, by omega⟩⟩⟩⟩, .inl ⟨rfl, rfl⟩, fun q => ⟨q.n, by show (1 : Int) ≠ 11; decide, fun x => (by cases x), fun x => by have x' : (4 : Int) ≤ 1 := x; omega⟩⟩⟩
      · show A.w (C.slot m.a.hs) = _
        rw [c4, hsl, hloc, if_neg (by decide), g1]
      · show PlG C (classOf z) T 0 (Pl.new (classOf m.a.hz)) A.w
        rw [c3]
        exact ⟨⟨rfl, rfl⟩, .inl ⟨g4, .inl ⟨rfl, rfl, rfl⟩⟩⟩
  · -- getting words
    obtain ⟨⟨x, hx, hxx⟩, hst⟩ := g6.step (who := who) g.hC hT.tb
    have hxb : 0 ≤ x ∧ x < C.base 0 ∧ (x = 2 + classOf z ∨ ∃ j, 0 ≤ j ∧ j < C.C ∧ x = C.chunk j) := by
      rcases hx with rfl | ⟨j, j0, j1, rfl⟩
      · exact ⟨by omega, by omega, .inl rfl⟩
      · have := e.ch j; exact ⟨by omega, by omega, .inr ⟨j, j0, j1, rfl⟩⟩
    have tm : ∀ m', Tm C z c A (m.t.step C who A).2.2 m' := fun m' => by
      rcases hxx with q | ⟨v, hv, q⟩
      · rw [q]; exact tl _ _ hxb.1 (by omega)
      · rw [q]; exact ts _ _ _ hxb.1 (by omega) hv (.inl hxb.2.1)
    have sm : ∀ y, y ≠ x → (m.t.step C who A).2.2.w y = A.w y := fun y hy => by
      rcases hxx with q | ⟨v, hv, q⟩
      · rw [q]; rfl
      · rw [q, sw, upd_ne _ _ hy]
    have hxn : x ≠ C.slot 0 ∧ x ≠ C.chunk c + 1 ∧ x ≠ C.chunk (c + 1) + 1 ∧ ∀ y, C.base c ≤ y → x ≠ y := by
      rcases hxb.2.2 with q | ⟨j, j0, j1, q⟩
      · exact ⟨by omega, by omega, by omega, fun y hy => by omega⟩
      · have := e.ch j; exact ⟨by omega, by omega, by omega, fun y hy => by omega⟩
    have sl' : (m.t.step C who A).2.2.w (C.slot 0) = putSlot st (if loc = true then C.base (c + 1) else C.base c) 1 V := by rw [sm _ (Ne.symm hxn.1)]; exact hsl
    have hd' : (m.t.step C who A).2.2.w (C.base c) = putHead 2 z 0 1 false := by rw [sm _ (Ne.symm (hxn.2.2.2 _ (Int.le_refl _)))]; exact hda
    have cl' : ClA C z c L V st (m.t.step C who A).2.2.w := fun y y0 y1 => by rw [sm _ (Ne.symm (hxn.2.2.2 _ (by omega)))]; exact hcl y y0 y1
    have cn' : P → Cn C z c (roomOf (classOf z)) 0 (m.t.step C who A).2.2.w := fun x => ⟨by rw [sm _ (Ne.symm hxn.2.1)]; exact (hcn x).1, by rw [sm _ (Ne.symm hxn.2.2.1)]; exact (hcn x).2⟩
    have kle : k + 1 ≤ 10 + c ∨ (m.t.step C who A).1 = true := by
      by_cases kk : k + 1 ≤ 10 + c
      · exact .inl kk
      · right
        rcases hst with ⟨q, q2⟩ | ⟨q, _⟩
        · exfalso
          have hk9 : k + 1 ≤ 10 + c := by
            obtain ⟨_, ⟨_, ⟨_, _, hk⟩ | ⟨_, _, _, _, _, hk⟩ | ⟨_, _, _, _, _, hk⟩ | ⟨_, _, a0, a1, hk, _⟩⟩ | ⟨_, f, hf, ⟨_, _, _, _, _, hk⟩ | ⟨_, ⟨_, _, _, _, hk⟩ | ⟨_, _, _, _, hk⟩ | ⟨_, _, _, _, hk⟩⟩⟩⟩ := q2
            · omega
            · omega
            · omega
            · -- scanning goes no further than the free chunk
              by_cases a2 : (m.t.step C who A).2.1.at' ≤ c + 1
              · omega
              · have := a1 (c + 1) (by omega) (by omega)
                rw [hT.nx] at this
                exact absurd rfl this
            · have := hT.ff ec.1 hf; omega
            · have := hT.ff ec.1 hf; omega
            · have := hT.ff ec.1 hf; omega
            · have := hT.ff ec.1 hf; omega
          exact kk hk9
        · exact q
    rcases hst with ⟨d, hst⟩ | ⟨d, hst⟩
    · have es1 : m.step C who A = (false, { m with t := (m.t.step C who A).2.1 }, (m.t.step C who A).2.2) := by
        unfold Mv.step; rw [if_neg (by omega), if_pos p, if_pos d]
      have k1 : k + 1 ≤ 10 + c := by rcases kle with q | q; exact q; rw [d] at q; cases q
      rw [es1]
      exact ⟨tm _, .inl ⟨rfl, V, st, loc, ⟨h.con, hwb, hcb, hib, hnb, hvb, sl', hd', .inl ⟨hloc, cl', cn', .inl ⟨g1, g2, g3, .inr ⟨p, g4, g5, k + 1, hst, by omega, by omega, k1⟩⟩⟩⟩, .inl ⟨rfl, rfl⟩, fun q => ⟨q.n, q.p, q.p0, q.r⟩⟩⟩
    · obtain ⟨hcc, ⟨q1, _⟩ | ⟨_, f, hf, o1, o2, o3, o4⟩ | ⟨_, _, _, o4⟩⟩ := hst
      · exact absurd q1 (hT.ngd ec.1)
      · have hf1 := hT.ff ec.1 hf
        subst hf1
        have es1 : m.step C who A = (false, ⟨{ m.a with sa := (m.t.step C who A).2.1.sa, sc := (m.t.step C who A).2.1.sc, got := true, pc := 2 }, (m.t.step C who A).2.1⟩, (m.t.step C who A).2.2) := by
          unfold Mv.step; rw [if_neg (by omega), if_pos p, if_neg (by rw [d]; decide), if_pos o1]
        rw [es1]
        exact ⟨tm _, .inl ⟨rfl, V, st, loc, ⟨h.con, hwb, hcb, hib, hnb, hvb, sl', hd', .inl ⟨hloc, cl', cn', .inr ⟨rfl, ⟨o3, o2⟩, o4, .inl ⟨g1, rfl, g4, g5, g3, by omega⟩⟩⟩⟩, .inl ⟨rfl, rfl⟩, fun q => ⟨q.n, by show (2 : Int) ≠ 11; decide, fun x => (by cases x), fun x => by have x' : (4 : Int) ≤ 2 := x; omega⟩⟩⟩
      · have := o4 (c + 1) (by omega) ec.2
        rw [hT.nx] at this
        exact absurd rfl this
  · -- the copy's head
    have es1 : m.step C who A = (false, { m with a := { m.a with pc := 3 } }, (A.by who).store m.a.sa (m.a.hd 1)) := by
      unfold Mv.step; rw [if_neg (by omega), if_neg (by omega), if_pos p]
    have ehd : m.a.hd 1 = putHead 1 z 0 1 false := by unfold Mo.hd; rw [c3, c4, c5, c6]
    rw [es1, ehd, g2]
    refine ⟨ts _ _ _ (by omega) (by omega) (putHead_in _ _ _ _ _) (.inr (.inr ⟨g1, by rw [g2]; exact Int.le_refl _, by rw [g2]; omega⟩)), .inl ⟨rfl, V, st, loc, ⟨h.con, hwb, hcb, hib, hnb, hvb, ?_, ?_, .inl ⟨hloc, ?_, ?_, .inr ⟨g1, ⟨g2, g3⟩, ?_, .inr ⟨?_, .inl ⟨g5, rfl, g6, g7, by show m.a.nn ≤ 2; omega, by omega⟩⟩⟩⟩⟩, .inl ⟨rfl, rfl⟩, fun q => ⟨q.n, by show (3 : Int) ≠ 11; decide, fun x => (by cases x), fun x => by have x' : (4 : Int) ≤ 3 := x; omega⟩⟩⟩
    · rw [sw, upd_ne _ _ (by omega)]; exact hsl
    · rw [sw, upd_ne _ _ (by omega)]; exact hda
    · rw [sw]; exact hcl.upd (by omega)
    · rw [sw]; exact fun x => (hcn x).upd (by omega) (by omega)
    · rw [sw]; exact e.cw g4 (.inr (.inl (by omega))) ec.1
    · rw [sw, upd_same]
  · -- marking
    have eq : A.w (C.slot m.a.hs) = m.a.w := by rw [c4, hsl, hloc, if_neg (by decide), g5, g6]
    have eas : m.a.as 2 m.a.addr 0 = putSlot 2 (C.base c) 1 V := by
      obtain ⟨_, _, t3, t4⟩ := spa 1 V (by decide) hvb
      unfold Mo.as; rw [c1, g6, t3, t4, Int.add_zero]
    have es1 : m.step C who A = (false, { m with a := { m.a with i := 0, pc := 4 } }, (A.by who).store (C.slot 0) (putSlot 2 (C.base c) 1 V)) := by
      unfold Mv.step; rw [if_neg (by omega), if_neg (by omega), if_neg (by omega), if_pos p, if_pos eq, cas_yes (show (A.by who).w _ = _ from eq), eas, c4]
    rw [es1]
    refine ⟨ts _ _ _ (by omega) (by omega) (putSlot_in _ _ _ _) (.inl (by omega)), .inl ⟨rfl, V, 2, loc, ⟨h.con, hwb, hcb, ⟨Int.le_refl 0, by show (0 : Int) ≤ z; omega⟩, hnb, hvb, ?_, ?_, .inl ⟨hloc, ?_, ?_, .inr ⟨g1, ⟨g2, g3⟩, ?_, .inr ⟨?_, .inr (.inr (.inl ⟨g8, V, g6, hvb.1, g7, .inl ⟨rfl, by show (0 : Int) < z; omega⟩, .inl ⟨rfl, rfl, fun x x0 x1 => by have x1' : x < 0 := x1; omega, fun x => by cases x⟩, ?_⟩))⟩⟩⟩⟩, .inl ⟨rfl, rfl⟩,
      fun q => ⟨q.n, by show (4 : Int) ≠ 11; decide, fun x => (by cases x), fun _ _ => rfl⟩⟩⟩
    · rw [sw, upd_same, hloc, if_neg (by decide)]
    · rw [sw, upd_ne _ _ (by omega)]; exact hda
    · rw [sw]; exact (hcl.st (Int.le_refl _) (fun x => by cases x)).upd (by omega)
    · rw [sw]; exact fun x => (hcn x).upd (by omega) (by omega)
    · rw [sw]; exact e.cw g4 (.inl rfl) ec.1
    · rw [sw, upd_ne _ _ (by omega)]; exact hb1
    · show 3 * (z - 0) + 1 + (if (4 : Int) = 5 then _ else if (4 : Int) = 6 then -2 else 0) + (if (2 : Int) = 2 then 4 else 3 * z + 12) ≤ q - 1
      rw [if_neg (by decide), if_neg (by decide), if_pos rfl]; omega
  · -- seeing once more
    obtain ⟨s1, s2, s3, s4⟩ := seen hloc g5
    have n1 : ¬ (slS (A.w (C.slot m.a.hs)) = 4 ∧ slG (A.w (C.slot m.a.hs)) = m.a.hg ∧ slA (A.w (C.slot m.a.hs)) = m.a.addr) := by rw [s1]; omega
    have n2 : ¬ (slS (A.w (C.slot m.a.hs)) ≠ 1 ∨ slG (A.w (C.slot m.a.hs)) ≠ m.a.hg ∨ slA (A.w (C.slot m.a.hs)) ≠ m.a.addr) := by rw [s1, s2, s3, c1, c5]; simp
    have hws := ok.w (C.slot m.a.hs)
    have cn0 : ∀ P : Prop, Cln m V st → P := fun P q => by have := (q.p0 p).1; rw [g1] at this; cases this
    by_cases cv : 4194302 ≤ V
    · have es1 : m.step C who A = (false, { m with a := { m.a with w := A.w (C.slot m.a.hs), out := 3, pc := 11 } }, (A.by who).load (C.slot m.a.hs)) := by
        unfold Mv.step; rw [if_pos p, if_neg n1, if_neg n2, if_pos (by rw [s4]; exact cv), show (!m.a.got) = false by rw [g1]; rfl]
        rw [endm_got (a := { m.a with w := A.w (C.slot m.a.hs) }) g1]
      rw [es1]
      exact ⟨tl _ _ (by rw [c4]; omega) (by rw [c4]; omega), .inl ⟨rfl, V, st, loc, ⟨h.con, hws, hcb, hib, hnb, hvb, hsl, hda, .inl ⟨hloc, hcl, hcn, .inr ⟨g1, ⟨g2, g3⟩, g4, .inr ⟨hb1, .inr (.inr (.inr ⟨g5, rfl, rfl, by omega⟩))⟩⟩⟩⟩, .inl ⟨rfl, rfl⟩, cn0 _⟩⟩
    · have es1 : m.step C who A = (false, { m with a := { m.a with w := A.w (C.slot m.a.hs), pc := 3 } }, (A.by who).load (C.slot m.a.hs)) := by
        unfold Mv.step; rw [if_pos p, if_neg n1, if_neg n2, if_neg (by rw [s4]; exact cv), if_pos g1]
      rw [es1]
      exact ⟨tl _ _ (by rw [c4]; omega) (by rw [c4]; omega), .inl ⟨rfl, V, st, loc, ⟨h.con, hws, hcb, hib, hnb, hvb, hsl, hda, .inl ⟨hloc, hcl, hcn, .inr ⟨g1, ⟨g2, g3⟩, g4, .inr ⟨hb1, .inl ⟨g5, rfl, by show A.w (C.slot m.a.hs) = _; rw [c4, hsl, hloc, if_neg (by decide), g5], by omega, g6, by omega⟩⟩⟩⟩⟩, .inl ⟨rfl, rfl⟩, cn0 _⟩⟩
  · -- the round
    obtain ⟨t1, t2, t3, t4⟩ := spa 1 Vm (by decide) (by omega)
    rw [← g6] at t1 t2 t3 t4
    have hstv : st = 2 ∨ st = 1 := by rcases g10 with q | q; exact .inl q.1; exact .inr q.1
    rcases g9 with ⟨p, hi⟩ | ⟨p, hi⟩ | ⟨p, hi⟩ | ⟨p, hi⟩
    · -- loading
      rw [p, if_neg (by decide), if_neg (by decide)] at g11
      have es1 : m.step C who A = (false, { m with a := { m.a with cell := A.w (C.base c + 1 + m.a.i), pc := if ceF (A.w (C.base c + 1 + m.a.i)) = true ∧ ceN (A.w (C.base c + 1 + m.a.i)) = Vm then 6 else 5 } }, (A.by who).load (C.base c + 1 + m.a.i)) := by
        unfold Mv.step; rw [if_neg (by omega), if_neg (by omega), if_neg (by omega), if_neg (by omega), if_pos p, c1, t4]
      rw [es1]
      refine ⟨tl _ _ (by omega) (by omega), .inl ⟨rfl, V, st, loc, ⟨h.con, hwb, ok.w _, hib, hnb, hvb, hsl, hda, .inl ⟨hloc, hcl, hcn, .inr ⟨g1, ⟨g2, g3⟩, g4, .inr ⟨hb1, .inr (.inr (.inl ⟨g5, Vm, g6, g7, g8, ?_, ?_, ?_⟩))⟩⟩⟩⟩, .inl ⟨rfl, rfl⟩, fun q => ⟨q.n, ?_, fun x => ?_, fun _ _ => q.r (by omega) (by omega)⟩⟩⟩
      · dsimp only; split
        · exact .inr (.inr (.inl ⟨rfl, hi⟩))
        · exact .inr (.inl ⟨rfl, hi⟩)
      · rcases g10 with ⟨q1, q2, q3, q4⟩ | q
        · refine .inl ⟨q1, q2, q3, fun x => ?_⟩
          dsimp only at x
          split at x
          · rename_i hq
            exact ⟨by rw [q2]; exact hq, (hcl m.a.i hib.1 hi).1⟩
          · cases x
        · exact .inr q
      · dsimp only
        split
        · rw [if_neg (by decide), if_pos rfl]; omega
        · rw [if_pos (show (5 : Int) = 5 from rfl), if_pos (show ((A.by who).load (C.base c + 1 + m.a.i)).w (C.base c + 1 + m.a.i) = A.w (C.base c + 1 + m.a.i) from rfl)]; omega
      · dsimp only; split <;> decide
      · dsimp only at x; split at x <;> cases x
    · -- freezing
      rw [p, if_pos rfl] at g11
      by_cases ceq : A.w (C.base c + 1 + m.a.i) = m.a.cell
      · rw [if_pos ceq] at g11
        have es1 : m.step C who A = (false, { m with a := { m.a with pc := 6 } }, (A.by who).store (C.base c + 1 + m.a.i) (putCell (ceV m.a.cell) true Vm)) := by
          unfold Mv.step; rw [if_neg (by omega), if_neg (by omega), if_neg (by omega), if_neg (by omega), if_neg (by omega), if_pos p, c1, t4, if_pos ceq, cas_yes (show (A.by who).w _ = _ from ceq)]
        obtain ⟨u1, u2, u3⟩ := ce_put (v := ceV m.a.cell) (f := true) (n := Vm) (ceV_bd _) (by omega)
        rw [if_pos rfl] at u3
        have hci := hcl m.a.i hib.1 hi
        rw [ceq] at hci
        rw [es1]
        refine ⟨ts _ _ _ (by omega) (by omega) (putCell_in _ _ _) (.inr (.inl (by omega))), .inl ⟨rfl, V, st, loc, ⟨h.con, hwb, hcb, hib, hnb, hvb, ?_, ?_, .inl ⟨hloc, ?_, ?_, .inr ⟨g1, ⟨g2, g3⟩, ?_, .inr ⟨?_, .inr (.inr (.inl ⟨g5, Vm, g6, g7, g8, .inr (.inr (.inl ⟨rfl, hi⟩)), ?_, ?_⟩))⟩⟩⟩⟩, .inl ⟨rfl, rfl⟩, fun q => ⟨q.n, by show (6 : Int) ≠ 11; decide, fun x => (by cases x), fun _ _ => q.r (by omega) (by omega)⟩⟩⟩
        · rw [sw, upd_ne _ _ (by omega)]; exact hsl
        · rw [sw, upd_ne _ _ (by omega)]; exact hda
        · rw [sw]
          intro x x0 x1
          by_cases ex : x = m.a.i
          · rw [ex, upd_same]
            refine ⟨by rw [u1]; exact hci.1, fun _ => ?_⟩
            rw [u3]
            rcases g10 with ⟨q1, q2, _⟩ | ⟨q1, q2⟩
            · exact ⟨by omega, fun q => by omega⟩
            · exact ⟨by omega, fun _ => q2⟩
          · rw [upd_ne _ _ (by omega)]; exact hcl x x0 x1
        · rw [sw]; exact fun x => (hcn x).upd (by omega) (by omega)
        · rw [sw]; exact e.cw g4 (.inr (.inl (by omega))) ec.1
        · rw [sw, upd_ne _ _ (by omega)]; exact hb1
        · rcases g10 with ⟨q1, q2, q3, q4⟩ | q
          · refine .inl ⟨q1, q2, fun x x0 x1 => ?_, fun _ => ?_⟩
            · have x1' : x < m.a.i := x1
              rw [sw, upd_ne _ _ (by omega), upd_ne _ _ (by omega)]; exact q3 x x0 x1
            · dsimp only
              rw [sw, upd_same]
              exact ⟨⟨u2, by rw [u3, q2]⟩, hci.1⟩
          · exact .inr q
        · dsimp only
          rw [if_neg (by decide), if_pos rfl]; omega
      · rw [if_neg ceq] at g11
        have es1 : m.step C who A = (false, { m with a := { m.a with pc := 4 } }, (A.by who).load (C.base c + 1 + m.a.i)) := by
          unfold Mv.step; rw [if_neg (by omega), if_neg (by omega), if_neg (by omega), if_neg (by omega), if_neg (by omega), if_pos p, c1, t4, if_neg ceq, cas_no (show (A.by who).w _ ≠ _ from ceq)]
        rw [es1]
        refine ⟨tl _ _ (by omega) (by omega), .inl ⟨rfl, V, st, loc, ⟨h.con, hwb, hcb, hib, hnb, hvb, hsl, hda, .inl ⟨hloc, hcl, hcn, .inr ⟨g1, ⟨g2, g3⟩, g4, .inr ⟨hb1, .inr (.inr (.inl ⟨g5, Vm, g6, g7, g8, .inl ⟨rfl, hi⟩, ?_, ?_⟩))⟩⟩⟩⟩, .inl ⟨rfl, rfl⟩, fun q => ⟨q.n, by show (4 : Int) ≠ 11; decide, fun x => (by cases x), fun _ _ => q.r (by omega) (by omega)⟩⟩⟩
        · rcases g10 with ⟨q1, q2, q3, q4⟩ | q
          · exact .inl ⟨q1, q2, q3, fun x => by cases x⟩
          · exact .inr q
        · dsimp only
          rw [if_neg (by decide), if_neg (by decide)]; omega
    · -- copying
      rw [p, if_neg (by decide), if_pos rfl] at g11
      have es1 : m.step C who A = (false, { m with a := { m.a with i := m.a.i + 1, pc := if z ≤ m.a.i + 1 then 7 else 4 } }, (A.by who).store (C.base (c + 1) + 1 + m.a.i) (putCell (ceV m.a.cell) false 0)) := by
        unfold Mv.step; rw [if_neg (by omega), if_neg (by omega), if_neg (by omega), if_neg (by omega), if_neg (by omega), if_neg (by omega), if_pos p, c3, g2]
      have hcv := ceV_bd m.a.cell
      rw [es1, putCell_lay hcv]
      refine ⟨ts _ _ _ (by omega) (by omega) (by omega) (.inr (.inr ⟨g1, by rw [g2]; omega, by rw [g2]; omega⟩)), .inl ⟨rfl, V, st, loc, ⟨h.con, hwb, hcb, ⟨by show 0 ≤ m.a.i + 1; omega, by show m.a.i + 1 ≤ z; omega⟩, hnb, hvb, ?_, ?_, .inl ⟨hloc, ?_, ?_, .inr ⟨g1, ⟨g2, g3⟩, ?_, .inr ⟨?_, .inr (.inr (.inl ⟨g5, Vm, g6, g7, g8, ?_, ?_, ?_⟩))⟩⟩⟩⟩, .inl ⟨rfl, rfl⟩, fun q => ⟨q.n, ?_, fun x => ?_, fun _ _ => q.r (by omega) (by omega)⟩⟩⟩
      · rw [sw, upd_ne _ _ (by omega)]; exact hsl
      · rw [sw, upd_ne _ _ (by omega)]; exact hda
      · rw [sw]; exact hcl.upd (by omega)
      · rw [sw]; exact fun x => (hcn x).upd (by omega) (by omega)
      · rw [sw]; exact e.cw g4 (.inr (.inl (by omega))) ec.1
      · rw [sw, upd_ne _ _ (by omega)]; exact hb1
      · dsimp only; split
        · exact .inr (.inr (.inr ⟨rfl, by omega⟩))
        · exact .inl ⟨rfl, by omega⟩
      · rcases g10 with ⟨q1, q2, q3, q4⟩ | q
        · obtain ⟨q5, q6⟩ := q4 p
          refine .inl ⟨q1, q2, fun x x0 x1 => ?_, fun x => ?_⟩
          · have x1' : x < m.a.i + 1 := x1
            rw [sw, upd_ne _ _ (by omega)]
            by_cases ex : x = m.a.i
            · rw [ex, upd_same]; exact ⟨q5, q6⟩
            · rw [upd_ne _ _ (by omega)]; exact q3 x x0 (by omega)
          · dsimp only at x; split at x <;> cases x
        · exact .inr q
      · dsimp only
        split
        · rw [if_neg (by decide), if_neg (by decide)]; omega
        · rw [if_neg (by decide), if_neg (by decide)]; omega
      · dsimp only; split <;> decide
      · dsimp only at x; split at x <;> cases x
    · -- showing
      rw [p, if_neg (by decide), if_neg (by decide)] at g11
      have eas : m.a.as 2 m.a.addr 0 = putSlot 2 (C.base c) 1 Vm := by unfold Mo.as; rw [c1, t3, t4, Int.add_zero]
      have eas1 : m.a.as 1 m.a.sa 1 = putSlot 1 (C.base (c + 1)) 1 (Vm + 1) := by unfold Mo.as; rw [g2, t3, t4]
      rcases g10 with ⟨q1, q2, q3, q4⟩ | ⟨q1, q2⟩
      · have eq : A.w (C.slot m.a.hs) = m.a.as 2 m.a.addr 0 := by rw [eas, c4, hsl, hloc, if_neg (by decide), q1, q2]
        have es1 : m.step C who A = (false, { m with a := { m.a with pc := 8 } }, (A.by who).store (C.slot 0) (putSlot 1 (C.base (c + 1)) 1 (Vm + 1))) := by
          unfold Mv.step; rw [if_neg (by omega), if_neg (by omega), if_neg (by omega), if_neg (by omega), if_neg (by omega), if_neg (by omega), if_neg (by omega), if_pos p, if_pos eq, cas_yes (show (A.by who).w _ = _ from eq), eas1, c4]
        rw [if_pos q1] at g11
        rw [es1]
        refine ⟨ts _ _ _ (by omega) (by omega) (putSlot_in _ _ _ _) (.inl (by omega)), .inl ⟨rfl, V + 1, 1, true, ⟨h.con, hwb, hcb, hib, hnb, by omega, ?_, ?_, .inr ⟨rfl, rfl, by omega, g1, ⟨g2, g3⟩, ?_, fun x x0 x1 => ?_, .inl ⟨rfl, ?_, ?_, by omega⟩⟩⟩, .inr ⟨hloc, rfl, rfl⟩, fun q => ⟨q.n, by show (8 : Int) ≠ 11; decide, fun x => (by cases x), fun _ x => by have x' : (8 : Int) ≤ 7 := x; omega⟩⟩⟩
        · rw [sw, upd_same, if_pos rfl, q2]
        · rw [sw, upd_ne _ _ (by omega)]; exact hda
        · rw [sw]; exact e.cw g4 (.inl rfl) ec.1
        · rw [sw, upd_ne _ _ (by omega), upd_ne _ _ (by omega), show V + 1 - 1 = V by omega]
          obtain ⟨r1, r2⟩ := q3 x x0 (by omega)
          have := (hcl x x0 x1).1
          have := ceV_bd (A.w (C.base c + 1 + x))
          exact ⟨r1, r2, by omega, by omega⟩
        · rw [sw, upd_ne _ _ (by omega)]; exact hb1
        · rw [sw]; exact fun x => (hcn x).upd (by omega) (by omega)
      · have ne : A.w (C.slot m.a.hs) ≠ m.a.as 2 m.a.addr 0 := by
          rw [eas, c4, hsl, hloc, if_neg (by decide), q1]
          intro q
          have r1 := (spa 1 V (by decide) hvb).1
          rw [q, (spa 2 Vm (by decide) (by omega)).1] at r1
          omega
        rw [if_neg (by omega)] at g11
        have cn0 : ∀ P : Prop, Cln m V st → P := fun P q => by have := q.r (by omega) (by omega); omega
        by_cases cR : C.R ≤ m.a.nn + 1
        · have es1 : m.step C who A = (false, { m with a := { m.a with nn := m.a.nn + 1, out := 3, pc := 11 } }, (A.by who).load (C.slot 0)) := by
            unfold Mv.step; rw [if_neg (by omega), if_neg (by omega), if_neg (by omega), if_neg (by omega), if_neg (by omega), if_neg (by omega), if_neg (by omega), if_pos p, if_neg ne, if_pos cR, cas_no (show (A.by who).w _ ≠ _ from ne), show (!m.a.got) = false by rw [g1]; rfl, c4]
            rw [endm_got (a := { m.a with pc := 0, nn := m.a.nn + 1 }) g1]
          rw [es1]
          exact ⟨tl _ _ (by omega) (by omega), .inl ⟨rfl, V, st, loc, ⟨h.con, hwb, hcb, hib, by dsimp only; omega, hvb, hsl, hda, .inl ⟨hloc, hcl, hcn, .inr ⟨g1, ⟨g2, g3⟩, g4, .inr ⟨hb1, .inr (.inr (.inr ⟨q1, rfl, rfl, by omega⟩))⟩⟩⟩⟩, .inl ⟨rfl, rfl⟩, cn0 _⟩⟩
        · have es1 : m.step C who A = (false, { m with a := { m.a with nn := m.a.nn + 1, pc := 0 } }, (A.by who).load (C.slot 0)) := by
            unfold Mv.step; rw [if_neg (by omega), if_neg (by omega), if_neg (by omega), if_neg (by omega), if_neg (by omega), if_neg (by omega), if_neg (by omega), if_pos p, if_neg ne, if_neg cR, cas_no (show (A.by who).w _ ≠ _ from ne), c4]
          rw [es1]
          exact ⟨tl _ _ (by omega) (by omega), .inl ⟨rfl, V, st, loc, ⟨h.con, hwb, hcb, hib, by dsimp only; omega, hvb, hsl, hda, .inl ⟨hloc, hcl, hcn, .inr ⟨g1, ⟨g2, g3⟩, g4, .inr ⟨hb1, .inr (.inl ⟨q1, rfl, by dsimp only; omega, by omega⟩)⟩⟩⟩⟩, .inl ⟨rfl, rfl⟩, cn0 _⟩⟩
  · -- killing the copy
    have es1 : m.step C who A = (true, m, (A.by who).store m.a.sa (m.a.hd 3)) := by
      unfold Mv.step; rw [if_neg (by omega), if_neg (by omega), if_neg (by omega), if_neg (by omega), if_neg (by omega), if_neg (by omega), if_neg (by omega), if_neg (by omega), if_neg (by omega), if_neg (by omega), if_neg (by omega)]
    rw [es1, g2]
    refine ⟨ts _ _ _ (by omega) (by omega) (putHead_in _ _ _ _ _) (.inr (.inr ⟨g1, by rw [g2]; exact Int.le_refl _, by rw [g2]; omega⟩)), .inr ⟨rfl, ⟨c1, hvb, ?_, ?_, .inr ⟨hloc, g6, ?_⟩⟩, fun q => absurd p q.p⟩⟩
    · rw [sw, upd_ne _ _ (by omega)]; have qq := hsl; rw [g5] at qq; exact qq
    · rw [sw, upd_ne _ _ (by omega)]; exact hda
    · rw [sw]; have qq := hcl; rw [g5] at qq; exact qq.upd (by omega)
  · -- the copy is ready
    have es1 : m.step C who A = (false, { m with a := { m.a with pc := 9 } }, (A.by who).store (C.base (c + 1)) (putHead 2 z 0 1 false)) := by
      unfold Mv.step; rw [if_neg (by omega), if_neg (by omega), if_neg (by omega), if_neg (by omega), if_neg (by omega), if_neg (by omega), if_neg (by omega), if_neg (by omega), if_pos p, g4]
      unfold Mo.hd; rw [c3, c4, c5, c6]
    rw [es1]
    refine ⟨ts _ _ _ (by omega) (by omega) (putHead_in _ _ _ _ _) (.inr (.inr ⟨g3, by rw [g4]; exact Int.le_refl _, by rw [g4]; omega⟩)), .inl ⟨rfl, V, st, loc, ⟨h.con, hwb, hcb, hib, hnb, hvb, ?_, ?_, .inr ⟨hloc, g1, g2, g3, ⟨g4, g5⟩, ?_, fun x x0 x1 => ?_, .inr ⟨?_, .inl ⟨rfl, ?_, by omega⟩⟩⟩⟩, .inl ⟨rfl, rfl⟩, fun q => ⟨q.n, by show (9 : Int) ≠ 11; decide, fun x => (by cases x), fun _ x => by have x' : (9 : Int) ≤ 7 := x; omega⟩⟩⟩
    · rw [sw, upd_ne _ _ (by omega)]; exact hsl
    · rw [sw, upd_ne _ _ (by omega)]; exact hda
    · rw [sw]; exact e.cw g6 (.inr (.inl (by omega))) ec.1
    · rw [sw, upd_ne _ _ (by omega), upd_ne _ _ (by omega)]; exact g7 x x0 x1
    · rw [sw, upd_same]
    · rw [sw]; exact fun x => (g9 x).upd (by omega) (by omega)
  · -- adding
    have hw1 : ∃ v, (0 ≤ v ∧ v < 18446744073709551616) ∧ IntKind.u64.wrap (A.w (C.chunk (c + 1) + 1) + IntKind.u64.wrap (roomOf (classOf z))) = v ∧ (P → v = roomOf (classOf z)) :=
      ⟨_, by rw [IntKind.wrap_u64]; omega, rfl, fun x => by rw [(g9 x).2, IntKind.wrap_u64, IntKind.wrap_u64]; omega⟩
    obtain ⟨v, hv0, hw1, hv⟩ := hw1
    have es1 : m.step C who A = (false, { m with a := { m.a with pc := 10 } }, (A.by who).store (C.chunk (c + 1) + 1) v) := by
      unfold Mv.step; rw [if_neg (by omega), if_neg (by omega), if_neg (by omega), if_neg (by omega), if_neg (by omega), if_neg (by omega), if_neg (by omega), if_neg (by omega), if_neg (by omega), if_pos p, g5, c3, add_eq, by_w, hw1]
    rw [es1]
    refine ⟨ts _ _ _ (by omega) (by omega) hv0 (.inl (by omega)), .inl ⟨rfl, V, st, loc, ⟨h.con, hwb, hcb, hib, hnb, hvb, ?_, ?_, .inr ⟨hloc, g1, g2, g3, ⟨g4, g5⟩, ?_, fun x x0 x1 => ?_, .inr ⟨?_, .inr ⟨rfl, ?_, by omega⟩⟩⟩⟩, .inl ⟨rfl, rfl⟩, fun q => ⟨q.n, by show (10 : Int) ≠ 11; decide, fun x => (by cases x), fun _ x => by have x' : (10 : Int) ≤ 7 := x; omega⟩⟩⟩
    · rw [sw, upd_ne _ _ (by omega)]; exact hsl
    · rw [sw, upd_ne _ _ (by omega)]; exact hda
    · rw [sw]; exact e.cw g6 (.inr (.inr (.inr rfl))) ec.1
    · rw [sw, upd_ne _ _ (by omega), upd_ne _ _ (by omega)]; exact g7 x x0 x1
    · rw [sw, upd_ne _ _ (by omega)]; exact g8
    · rw [sw]; exact fun x => ⟨by rw [upd_ne _ _ (by omega)]; exact (g9 x).1, by rw [upd_same]; exact hv x⟩
  · -- taking
    have hw1 : ∃ v, (0 ≤ v ∧ v < 18446744073709551616) ∧ IntKind.u64.wrap (A.w (C.chunk c + 1) + IntKind.u64.wrap (-roomOf (classOf z))) = v ∧ (P → v = 0) :=
      ⟨_, by rw [IntKind.wrap_u64]; omega, rfl, fun x => by rw [(g9 x).1, IntKind.wrap_u64, IntKind.wrap_u64]; omega⟩
    obtain ⟨v, hv0, hw1, hv⟩ := hw1
    have es1 : m.step C who A = (true, { m with a := { m.a with out := 1 } }, (A.by who).store (C.chunk c + 1) v) := by
      unfold Mv.step; rw [if_neg (by omega), if_neg (by omega), if_neg (by omega), if_neg (by omega), if_neg (by omega), if_neg (by omega), if_neg (by omega), if_neg (by omega), if_neg (by omega), if_neg (by omega), if_pos p, c1, e.of, c3, add_eq, by_w, hw1]
    rw [es1]
    refine ⟨ts _ _ _ (by omega) (by omega) hv0 (.inl (by omega)), .inr ⟨rfl, ⟨c1, hvb, ?_, ?_, .inl ⟨hloc, rfl, g2, g3, ⟨g4, g5⟩, ?_, fun x x0 x1 => ?_, ?_, ?_⟩⟩, fun _ => rfl⟩⟩
    · rw [sw, upd_ne _ _ (by omega)]; have qq := hsl; rw [g1] at qq; exact qq
    · rw [sw, upd_ne _ _ (by omega)]; exact hda
    · rw [sw]; exact e.cw g6 (.inr (.inr (.inl rfl))) ec.1
    · rw [sw, upd_ne _ _ (by omega), upd_ne _ _ (by omega)]; exact g7 x x0 x1
    · rw [sw, upd_ne _ _ (by omega)]; exact g8
    · rw [sw]; exact fun x => ⟨by rw [upd_same]; exact hv x, by rw [upd_ne _ _ (by omega)]; exact (g9 x).2⟩
end Go.Fl
namespace Go.Fl
open Go
set_option linter.unusedVariables false
set_option linter.unusedSimpArgs false
variable {N : Nm} {A B : Ar} {σ : Mem} {K : Value → Mem → Prop} {C : Cf} {who : Int}
structure Ev (C : Cf) (n : Int) (own : Bool) (z a W bb : Int) (A : Ar) : Prop where
 ol : Ol C A.w n own z a
 W : A.w (C.slot (hdSl n)) = W
 ok : A.ok bb
 n1 : C.len ≤ A.n
 n2 : (A.n : Int) ≤ 200000000
theorem Ev.mono {n z a W bb b2 : Int} {own : Bool} (h : Ev C n own z a W bb A) (hb : bb ≤ b2) : Ev C n own z a W b2 A := ⟨h.ol, h.W, ok_mono h.ok hb, h.n1, h.n2⟩
end Go.Fl
namespace Go.Fl
open Go
set_option linter.unusedVariables false
set_option linter.unusedSimpArgs false
variable {N : Nm} {A B : Ar} {σ : Mem} {K : Value → Mem → Prop} {C : Cf} {who : Int}
theorem Bgn.tb {z c V : Int} {L : Int → Int} (g : Geo C z c) (h : Bgn C z c V L A) : TbM C z c A.w := by
 have hc := g.hc
 refine ⟨⟨⟨g.hz, (class_bd z).2⟩, by rw [h.o]; omega, fun j _ _ => h.ok.w _, fun j j0 j1 hj => ?_⟩, h.o, h.ev, h.ch _ (Int.le_refl _) hc.2⟩
 by_cases e : j ≤ c
 ·rw [h.ev j j0 e] at hj; omega
 ·rw [h.ch j (by omega) j1]; decide
theorem Bgn.mi {P : Prop} {z c V : Int} {L : Int → Int} (g : Geo C z c) (h : Bgn C z c V L A) (hP : P → Cn C z c (roomOf (classOf z)) 0 A.w) (hV : 0 ≤ V ∧ V ≤ 4194303) : MI P C z c A.w L V 1 false (3 * z + 40 + c) (Mv.new (C.base c) 2 z 0 1 false) A.w := by
 obtain ⟨sz, szr⟩ := class_room' g.hz
 refine ⟨⟨rfl, rfl, rfl, rfl, rfl, rfl⟩, ⟨Int.le_refl 0, (by decide : (0 : Int) < 18446744073709551616)⟩, ⟨Int.le_refl 0, (by decide : (0 : Int) < 18446744073709551616)⟩, ⟨Int.le_refl 0, by show (0 : Int) ≤ z; omega⟩, ⟨Int.le_refl 0, (by decide : (0 : Int) ≤ 3)⟩, hV, by rw [if_neg (by decide)]; exact h.sl, h.hd, .inl ⟨rfl, fun x x0 x1 => ?_, hP, .inl ⟨rfl, rfl, rfl, .inl ⟨rfl, Cw.refl, Int.le_refl _⟩⟩⟩⟩
 obtain ⟨q1, q2, q3⟩ := h.cl x x0 x1
 rw [q1]
 have hf : ceF (L x) = false := decide_eq_false (by omega)
 exact ⟨by unfold ceV; omega, fun q => by rw [hf] at q; cases q⟩
theorem BgL.cn {z : Int} (g : Geo C z 0) (h : BgL C z A) : Cn C z 0 (roomOf (classOf z)) 0 A.w := ⟨h.lv0, h.lv 1 (by decide) g.hc.2⟩
theorem Mv.new_cln {z c V : Int} (hV : V ≤ 4194301) : Cln (Mv.new (C.base c) 2 z 0 1 false) V 1 := ⟨rfl, (by decide : (0 : Int) ≠ 11), fun _ => ⟨rfl, hV⟩, fun x => by have x' : (4 : Int) ≤ 0 := x; omega⟩
theorem MOb.arena {p : Nat} {O : List Nat} {m : Mv} {τ : Mem} (h : MOb N p O m σ) (x : Keep N.l σ τ) : MOb N p O m τ := h.keep x fun i hi hl => h.own i hi hl
theorem argI_nil {k : IntKind} : ArgI k σ (.slice none 0 0) 0 (fun _ => 0) := ⟨none, 0, rfl, fun h => absurd h (Nat.lt_irrefl 0)⟩
end Go.Fl
namespace Go.Fl
open Go
set_option linter.unusedVariables false
set_option linter.unusedSimpArgs false
variable {N : Nm} {A B : Ar} {σ : Mem} {K : Value → Mem → Prop} {C : Cf} {who : Int}
def Cur (C : Cf) (c : Int) (loc : Bool) : Int := if loc = true then C.base (c + 1) else C.base c
structure Smv (C : Cf) (z c : Int) (L : Int → Int) (V st : Int) (loc : Bool) (w : Int → Int) : Prop where
 vb : 0 ≤ V ∧ V ≤ 4194303
 sb : (st = 1 ∨ st = 2) ∧ (loc = true → st = 1 ∧ 1 ≤ V)
 sl : w (C.slot 0) = putSlot st (Cur C c loc) 1 V
 hda : w (C.base c) = putHead 2 z 0 1 false
 lf : loc = false → ClA C z c L V st w
 lt : loc = true → (∃ k, (0 ≤ k ∧ k ≤ 3) ∧ w (C.base (c + 1)) = putHead k z 0 1 false) ∧ ∀ x, 0 ≤ x → x < z → Fzd (V - 1) (w (C.base c + 1 + x)) ∧ w (C.base (c + 1) + 1 + x) = L x ∧ 0 ≤ L x ∧ L x ≤ 1099511627775
theorem MI.sm {P : Prop} {z c V st q : Int} {T L : Int → Int} {loc : Bool} {m : Mv} {w : Int → Int} (h : MI P C z c T L V st loc q m w) : Smv C z c L V st loc w := by
 rcases h.ph with ⟨e, hc, hn, hh⟩ | ⟨e1, e2, e3, e4, e5, e6, e7, hh⟩
 ·refine ⟨h.vb, ⟨?_, fun q => by rw [e] at q; cases q⟩, h.sl, h.hda, fun _ => hc, fun q => by rw [e] at q; cases q⟩
  rcases hh with ⟨q, _⟩ | ⟨_, _, _, ⟨q, _⟩ | ⟨_, ⟨q, _⟩ | ⟨q, _⟩ | ⟨_, _, _, _, _, _, ⟨q, _⟩ | ⟨q, _⟩, _⟩ | ⟨q, _⟩⟩⟩
  ·exact .inl q
  ·exact .inl q
  ·exact .inl q
  ·exact .inl q
  ·exact .inr q
  ·exact .inl q
  ·exact .inl q
 ·refine ⟨h.vb, ⟨.inl e2, fun _ => ⟨e2, e3⟩⟩, h.sl, h.hda, fun q => by rw [e1] at q; (cases q), fun _ => ⟨?_, e7⟩⟩
  rcases hh with ⟨_, q, _⟩ | ⟨q, _⟩
  ·exact ⟨1, by decide, q⟩
  ·exact ⟨2, by decide, q⟩
theorem MD.sm {P : Prop} {z c V : Int} {T L : Int → Int} {loc : Bool} {m : Mv} {w : Int → Int} (h : MD P C z c T L V loc m w) : Smv C z c L V 1 loc w := by
 rcases h.r with ⟨e1, _, e3, _, _, _, e7, q, _⟩ | ⟨e1, _, e3⟩
 ·exact ⟨h.vb, ⟨.inl rfl, fun _ => ⟨rfl, e3⟩⟩, h.sl, h.hda, fun q => by rw [e1] at q; (cases q), fun _ => ⟨⟨2, by decide, q⟩, e7⟩⟩
 ·exact ⟨h.vb, ⟨.inl rfl, fun q => by rw [e1] at q; cases q⟩, h.sl, h.hda, fun _ => e3, fun q => by rw [e1] at q; cases q⟩
end Go.Fl
namespace Go.Fl
open Go
set_option linter.unusedVariables false
set_option linter.unusedSimpArgs false
variable {N : Nm} {A B : Ar} {σ : Mem} {K : Value → Mem → Prop} {C : Cf} {who : Int}
def Mv.adr (C : Cf) (m : Mv) : Int := if m.a.pc = 0 ∨ m.a.pc = 3 ∨ m.a.pc = 7 then C.slot m.a.hs else if m.a.pc = 4 ∨ m.a.pc = 5 then m.a.addr + 1 + m.a.i else if m.a.pc = 6 then m.a.sa + 1 + m.a.i else if m.a.pc = 9 then C.chunk m.a.sc + 1 else if m.a.pc = 10 then C.chunk (ofC C m.a.addr) + 1 else m.a.sa
theorem cas_only {y a o v : Int} (h : y ≠ a) : ((A.by who).cas a o v).w y = A.w y := by
 by_cases c : A.w a = o
 ·rw [cas_yes (show (A.by who).w a = o from c), store_w]; exact upd_ne _ _ h
 ·rw [cas_no (show (A.by who).w a ≠ o from c)]; rfl
theorem Mv.only {m : Mv} {y : Int} (p : 0 ≤ m.a.pc ∧ m.a.pc ≤ 11 ∧ m.a.pc ≠ 1) (hy : y ≠ m.adr C) : (m.step C who A).2.2.w y = A.w y := by
 have st : ∀ a v, y ≠ a → ((A.by who).store a v).w y = A.w y := fun a v h => by rw [store_w]; exact upd_ne _ _ h
 unfold Mv.adr at hy
 rcases (show m.a.pc = 0 ∨ m.a.pc = 2 ∨ m.a.pc = 3 ∨ m.a.pc = 4 ∨ m.a.pc = 5 ∨ m.a.pc = 6 ∨ m.a.pc = 7 ∨ m.a.pc = 8 ∨ m.a.pc = 9 ∨ m.a.pc = 10 ∨ m.a.pc = 11 by omega) with q | q | q | q | q | q | q | q | q | q | q <;> rw [q] at hy <;> simp at hy <;> unfold Mv.step <;> rw [q] <;> simp only [Int.reduceEq, if_true, if_false, Int.reduceNe, if_pos, if_neg]
 ·(repeat' split) <;> rfl
 ·exact st _ _ hy
 ·exact cas_only hy
 ·rfl
 ·exact cas_only hy
 ·exact st _ _ hy
 ·(repeat' split) <;> exact cas_only hy
 ·exact st _ _ hy
 ·exact st _ _ hy
 ·exact st _ _ hy
 ·exact st _ _ hy
structure DqO (C : Cf) (z a j ws : Int) (w0 : Int → Int) : Prop where
 wq : w0 (C.slot 0) = ws
 st : slS ws = 1 ∨ slS ws = 2
 sa : slA ws = a
 sg : slG ws = 1
 wb : 0 ≤ ws ∧ ws < 18446744073709551616
 hd : hdS (w0 a) = z ∧ hdO (w0 a) = false
 zb : 1 ≤ z ∧ z ≤ 16
 cl : 0 ≤ classOf z
 jb : 0 ≤ j ∧ j < C.C
 ab : C.base 0 ≤ a ∧ a + z < C.len ∧ a ≤ 1048575
 of : ofC C a = j
 G : ¬ C.G ≤ 1
def vQ (a ws : Int) : Int := putSlot 4 a 1 (slV ws + 1)
def nQ : Int := putSlot 0 0 2 0
theorem nQ_f : slS nQ = 0 ∧ slA nQ = 0 ∧ slG nQ = 2 := ⟨(sl_put' (by decide) (by decide) (by decide)).1, (sl_put' (by decide) (by decide) (by decide)).2.1, (sl_put' (by decide) (by decide) (by decide)).2.2⟩
def frQ (C : Cf) (z a j : Int) (w0 w : Int → Int) : Prop := ∀ y, y ≠ C.slot 0 → y ≠ 1 → y ≠ C.slot 0 + 1 → y ≠ C.chunk j + 1 → ¬ (a < y ∧ y ≤ a + z) → w y = w0 y
def lQ (C : Cf) (z j : Int) (w0 : Int → Int) : Int := IntKind.u64.wrap (w0 (C.chunk j + 1) + IntKind.u64.wrap (-roomOf (classOf z)))
def DqI (C : Cf) (z a j ws : Int) (w0 : Int → Int) (k : Int) (m : Dm) (A : Ar) : Prop :=
 m.d.n = 65536 ∧ m.d.own = false ∧ (
  (m.d.pc = 0 ∧ k ≤ 0 ∧ A.w = w0 ∧ m.d.hs = 0 ∧ m.d.w = 0) ∨
  (m.d.hs = 0 ∧ m.d.hg = 1 ∧ m.d.w = ws ∧ (
   (m.d.pc = 1 ∧ k ≤ 1 ∧ A.w = w0) ∨
   (m.d.size = z ∧ (
    (m.d.pc = 2 ∧ k ≤ 2 ∧ A.w = w0) ∨
    (frQ C z a j w0 A.w ∧ (
     (m.d.pc = 3 ∧ A.w (C.chunk j + 1) = w0 (C.chunk j + 1) ∧ A.w (C.slot 0) = vQ a ws ∧ (m.h.slot = 0 ∧ m.h.w = vQ a ws ∧ m.h.size = z) ∧ (0 ≤ m.h.i ∧ m.h.i ≤ z) ∧ (0 ≤ m.h.cell ∧ m.h.cell < 18446744073709551616) ∧
      (m.h.read = false ∧ k ≤ 3 + 2 * m.h.i ∨ m.h.read = true ∧ m.h.i < z ∧ A.w m.h.a = m.h.cell ∧ k ≤ 4 + 2 * m.h.i)) ∨
     (A.w (C.slot 0) = nQ ∧ m.d.oE = 0 ∧ (
      (m.d.pc = 5 ∧ A.w (C.chunk j + 1) = w0 (C.chunk j + 1) ∧ k ≤ 4 + 2 * z) ∨
      (m.d.pc = 6 ∧ A.w (C.chunk j + 1) = lQ C z j w0 ∧ (m.g = ⟨0, 0, 0⟩ ∧ k ≤ 5 + 2 * z ∨ m.g = ⟨1, 0, A.w 1⟩ ∧ k ≤ 6 + 2 * z ∨ m.g = ⟨2, 0, A.w 1⟩ ∧ k ≤ 7 + 2 * z)))))))))))
structure DqD (C : Cf) (z a j : Int) (w0 : Int → Int) (m : Dm) (A : Ar) : Prop where
 e : m.d.oE = 0
 fr : frQ C z a j w0 A.w
 sl : A.w (C.slot 0) = nQ
 lv : A.w (C.chunk j + 1) = lQ C z j w0
theorem DqI.step (hC : C.ok) {z a j ws k bb : Int} {w0 : Int → Int} {m : Dm} (h : DqI C z a j ws w0 k m A) (hd : DqO C z a j ws w0) (ok : A.ok bb) (hb : bb < 4611686018427387904) (hn : C.len ≤ A.n) :
  m.fit C A ∧ k ≤ 39 ∧ (m.step C who A).2.2.n = A.n ∧ (m.step C who A).2.2.ok (bb + 1) ∧
  ((m.step C who A).1 = false ∧ DqI C z a j ws w0 (k + 1) (m.step C who A).2.1 (m.step C who A).2.2 ∨ (m.step C who A).1 = true ∧ DqD C z a j w0 (m.step C who A).2.1 (m.step C who A).2.2) := by
 have hT := hC.T
 have hS := hC.S
 have hCC := hC.C
 have hj := hd.jb
 have hz := hd.zb
 have hab := hd.ab
 have hll := len_bd hC
 have hr := room_bd hd.cl (class_bd z).2
 have hb0 : C.base 0 = 6 + C.T + 2 * C.S + 3 * C.C := by unfold Cf.base; omega
 obtain ⟨v1, v2, v3⟩ := sl_put' (st := 4) (ad := a) (ge := 1) (ve := slV ws + 1) (by decide) (by omega) (by decide)
 have esl : C.slot 0 = 6 + C.T := by unfold Cf.slot; omega
 have ech : C.chunk j = 6 + C.T + 2 * C.S + 3 * j := rfl
 have ld : ∀ x, ((A.by who).load x).n = A.n ∧ ((A.by who).load x).ok (bb + 1) := fun x => ⟨rfl, (aft_load (who := who) (A := A) (a := x) ok (by omega)).ok (by decide) ok ok.w⟩
 have stt : ∀ x v, 0 ≤ v ∧ v < 18446744073709551616 → ((A.by who).store x v).n = A.n ∧ ((A.by who).store x v).ok (bb + 1) := fun x v hv => by
  have a1 := aft_store (who := who) (A := A) (a := x) (v := v) ok (by omega)
  exact ⟨a1.n, a1.ok (by omega) ok fun i => upd_cases (P := fun x => 0 ≤ x ∧ x < 18446744073709551616) hv (ok.w i)⟩
 have cy : ∀ x o v, A.w x = o → (A.by who).cas x o v = (A.by who).store x v := fun x o v e => cas_yes (show (A.by who).w x = o from e)
 obtain ⟨e1, e2, ⟨h, hk, ew, h1, h2⟩ | ⟨h1, hge, h2, ⟨h, hk, ew⟩ | ⟨hsz, ⟨h, hk, ew⟩ | ⟨fr, ⟨h, hlv, hsl, ⟨h3a, h3b, h3c⟩, h4, h5, h6⟩ | ⟨hsl, oE, ⟨h, hlv, hk⟩ | ⟨h, hlv, hg⟩⟩⟩⟩⟩⟩ := h
 ·have hl : lives (A.w (C.slot 0)) 1 := by
   rw [ew, hd.wq]; exact ⟨by have := hd.st; omega, hd.sg⟩
  have e : m.step C who A = (false, { m with d := { m.d with hs := hdSl m.d.n, hg := hdGe m.d.n, w := A.w (C.slot (hdSl m.d.n)), pc := 1 } }, (A.by who).load (C.slot (hdSl m.d.n))) := by
   unfold Dm.step; rw [if_pos h, if_neg ?_, if_pos (by rw [e1, h65.1, h65.2.1]; exact hl)]
   rintro (q | q)
   ·rw [e1, h65.2.2] at q; cases q
   ·rw [e1, h65.1] at q; omega
  rw [e]
  refine ⟨⟨by omega, by rw [e1]; decide, by rw [h1]; omega, by rw [h2]; decide, fun q => by omega, fun q => by omega, fun q => by omega, fun q => by omega⟩, by omega, (ld _).1, (ld _).2, .inl ⟨rfl, e1, e2, .inr ⟨by show hdSl m.d.n = 0; rw [e1]; exact h65.1, by show hdGe m.d.n = 1; rw [e1]; exact h65.2.1, ?_, .inl ⟨rfl, by omega, ew⟩⟩⟩⟩
  show A.w (C.slot (hdSl m.d.n)) = ws
  rw [e1, h65.1, ew]; exact hd.wq
 ·have e : m.step C who A = (false, { m with d := { m.d with size := hdS (A.w (slA m.d.w)), pc := 2 } }, (A.by who).load (slA m.d.w)) := by
   have := hd.st
   unfold Dm.step; rw [if_neg (by omega), if_pos h, if_neg (by rw [h2, hd.sa, ew, hd.hd.2, e2]; simp), if_neg (by rw [h2]; omega)]
  rw [e]
  exact ⟨⟨by omega, by rw [e1]; decide, by rw [h1]; omega, by rw [h2]; exact hd.wb, fun q => by rw [h2, hd.sa]; omega, fun q => by omega, fun q => by omega, fun q => by omega⟩, by omega, (ld _).1, (ld _).2, .inl ⟨rfl, e1, e2, .inr ⟨h1, hge, h2, .inr ⟨by show hdS (A.w (slA m.d.w)) = _; rw [h2, hd.sa, ew]; exact hd.hd.1, .inl ⟨rfl, by omega, ew⟩⟩⟩⟩⟩
 ·have ev : putSlot 4 (slA m.d.w) (slG m.d.w) (slV m.d.w + 1) = vQ a ws := by rw [h2, hd.sa, hd.sg]; rfl
  have eq : A.w (C.slot m.d.hs) = m.d.w := by rw [h1, h2, ew]; exact hd.wq
  have e : m.step C who A = (false, { m with d := { m.d with pc := 3 }, h := Hl.new m.d.hs (vQ a ws) m.d.size }, (A.by who).store (C.slot 0) (vQ a ws)) := by
   unfold Dm.step; rw [if_neg (by omega), if_neg (by omega), if_pos h, if_pos eq, ev, cy _ _ _ eq, h1]
  rw [e]
  have hvb : 0 ≤ vQ a ws ∧ vQ a ws < 18446744073709551616 := putSlot_in _ _ _ _
  refine ⟨⟨by omega, by rw [e1]; decide, by rw [h1]; omega, by rw [h2]; exact hd.wb, fun q => by omega, fun q => by omega, fun q => by omega, fun q => by omega⟩, by omega, (stt _ _ hvb).1, (stt _ _ hvb).2, .inl ⟨rfl, e1, e2, .inr ⟨h1, hge, h2, .inr ⟨hsz, .inr ⟨fun y n1 _ _ _ _ => by rw [store_w, upd_ne _ _ n1, by_w, ew], .inl ⟨rfl, by rw [store_w, upd_ne _ _ (by omega), by_w, ew], by rw [store_w, upd_same], ⟨h1, rfl, hsz⟩, ⟨Int.le_refl 0, by show (0 : Int) ≤ z; omega⟩, (by decide : (0 : Int) ≤ 0 ∧ (0 : Int) < 18446744073709551616), .inl ⟨rfl, by show k + 1 ≤ 3 + 2 * 0; omega⟩⟩⟩⟩⟩⟩⟩
 ·have hha : m.h.a = a + 1 + m.h.i := by unfold Hl.a; rw [h3b]; unfold vQ; rw [v2]
  have hfit : m.fit C A := by
   refine ⟨by omega, by rw [e1]; decide, by rw [h1]; omega, by rw [h2]; exact hd.wb, fun q => by omega, fun _ => ?_, fun q => by omega, fun q => by omega⟩
   exact ⟨by rw [h3a]; omega, by rw [h3b]; exact putSlot_in _ _ _ _, h5, by omega, by omega, fun q => by rw [h3b]; unfold vQ; rw [v2]; omega⟩
  have e : m.step C who A = (if (m.h.step C who A).1 = true then (false, { m with d := { m.d with oE := 0, oH := 0, oV := 0, oS := (m.h.step C who A).2.2.t (C.slot m.d.hs), pc := 5 } }, (m.h.step C who A).2.2) else (false, { m with h := (m.h.step C who A).2.1 }, (m.h.step C who A).2.2)) := by
   unfold Dm.step; rw [if_neg (by omega), if_neg (by omega), if_neg (by omega), if_pos h]
  refine ⟨hfit, by rcases h6 with ⟨_, q⟩ | ⟨_, _, _, q⟩ <;> omega, ?_⟩
  rw [e]
  by_cases ci : m.h.size ≤ m.h.i
  ·have enx : m.h.next C = nQ := by
    unfold Hl.next; rw [h3b]; unfold vQ; rw [v3, if_neg hd.G]; rfl
   have eq : A.w (C.slot m.h.slot) = m.h.w := by rw [h3a, h3b]; exact hsl
   have eh : m.h.step C who A = (true, { m.h with won := decide (A.w (C.slot m.h.slot) = m.h.w) }, (A.by who).store (C.slot m.h.slot) nQ) := by unfold Hl.step; rw [if_pos ci, cy _ _ _ eq, enx]
   have esl0 : C.slot m.h.slot = C.slot 0 := by rw [h3a]
   rw [eh, esl0, if_pos rfl]
   dsimp only
   have hvb : 0 ≤ nQ ∧ nQ < 18446744073709551616 := putSlot_in _ _ _ _
   refine ⟨(stt _ _ hvb).1, (stt _ _ hvb).2, .inl ⟨rfl, e1, e2, .inr ⟨h1, hge, h2, .inr ⟨hsz, .inr ⟨fun y n1 n2 n3 n4 n5 => by rw [store_w, upd_ne _ _ n1, by_w]; exact fr y n1 n2 n3 n4 n5, .inr ⟨by rw [store_w, upd_same], rfl, .inl ⟨rfl, by rw [store_w, upd_ne _ _ (by omega), by_w]; exact hlv, by rcases h6 with ⟨_, q⟩ | ⟨_, _, _, q⟩ <;> omega⟩⟩⟩⟩⟩⟩⟩
  ·have hiz : m.h.i < z := by omega
   have hcell : a < m.h.a ∧ m.h.a ≤ a + z := by omega
   rcases h6 with ⟨hr0, hk⟩ | ⟨hr1, _, hc, hk⟩
   ·by_cases q : ceF (A.w m.h.a) = true ∧ ceN (A.w m.h.a) = slV m.h.w
    ·have eh : m.h.step C who A = (false, { m.h with cell := A.w m.h.a, read := false, i := m.h.i + 1 }, (A.by who).load m.h.a) := by unfold Hl.step; rw [if_neg ci, if_pos hr0, if_pos q]
     rw [eh, if_neg (show ¬ (false = true) from Bool.false_ne_true)]
     exact ⟨(ld _).1, (ld _).2, .inl ⟨rfl, e1, e2, .inr ⟨h1, hge, h2, .inr ⟨hsz, .inr ⟨fr, .inl ⟨h, hlv, hsl, ⟨h3a, h3b, h3c⟩, ⟨by dsimp only; omega, by dsimp only; omega⟩, ok.w _, .inl ⟨rfl, by dsimp only; omega⟩⟩⟩⟩⟩⟩⟩
    ·have eh : m.h.step C who A = (false, { m.h with cell := A.w m.h.a, read := true }, (A.by who).load m.h.a) := by unfold Hl.step; rw [if_neg ci, if_pos hr0, if_neg q]
     rw [eh, if_neg (show ¬ (false = true) from Bool.false_ne_true)]
     exact ⟨(ld _).1, (ld _).2, .inl ⟨rfl, e1, e2, .inr ⟨h1, hge, h2, .inr ⟨hsz, .inr ⟨fr, .inl ⟨h, hlv, hsl, ⟨h3a, h3b, h3c⟩, h4, ok.w _, .inr ⟨rfl, hiz, rfl, by dsimp only; omega⟩⟩⟩⟩⟩⟩⟩
   ·have eh : m.h.step C who A = (false, { m.h with read := false, i := m.h.i + 1 }, (A.by who).store m.h.a (putCell (ceV m.h.cell) true (slV m.h.w))) := by unfold Hl.step; rw [if_neg ci, if_neg (by rw [hr1]; decide), if_pos hc, cy _ _ _ hc]
    rw [eh, if_neg (show ¬ (false = true) from Bool.false_ne_true)]
    have hvb := putCell_in (ceV m.h.cell) true (slV m.h.w)
    refine ⟨(stt _ _ hvb).1, (stt _ _ hvb).2, .inl ⟨rfl, e1, e2, .inr ⟨h1, hge, h2, .inr ⟨hsz, .inr ⟨fun y n1 n2 n3 n4 n5 => ?_, .inl ⟨h, ?_, ?_, ⟨h3a, h3b, h3c⟩, ⟨by dsimp only; omega, by dsimp only; omega⟩, h5, .inl ⟨rfl, by dsimp only; omega⟩⟩⟩⟩⟩⟩⟩
    ·rw [store_w, upd_ne _ _ (by rintro rfl; exact n5 hcell), by_w]; exact fr y n1 n2 n3 n4 n5
    ·rw [store_w, upd_ne _ _ (by omega), by_w]; exact hlv
    ·rw [store_w, upd_ne _ _ (by omega), by_w]; exact hsl
 ·have e : m.step C who A = (decide (C.G ≤ m.d.hg), { m with d := { m.d with pc := 6 }, g := ⟨0, m.d.hs, 0⟩ }, (A.by who).add (C.chunk (ofC C (slA m.d.w)) + 1) (IntKind.u64.wrap (-roomOf (classOf m.d.size)))) := by
   unfold Dm.step; rw [if_neg (by omega), if_neg (by omega), if_neg (by omega), if_neg (by omega), if_neg (by omega), if_pos h]
  rw [e, h2, hd.sa, hd.of, hsz, add_eq]
  have hvb : 0 ≤ IntKind.u64.wrap ((A.by who).w (C.chunk j + 1) + IntKind.u64.wrap (-roomOf (classOf z))) ∧ IntKind.u64.wrap ((A.by who).w (C.chunk j + 1) + IntKind.u64.wrap (-roomOf (classOf z))) < 18446744073709551616 := wrap_in _
  have ewv : IntKind.u64.wrap ((A.by who).w (C.chunk j + 1) + IntKind.u64.wrap (-roomOf (classOf z))) = lQ C z j w0 := by rw [by_w, hlv]; rfl
  refine ⟨⟨by omega, by rw [e1]; decide, by rw [h1]; omega, by rw [h2]; exact hd.wb, fun q => by omega, fun q => by omega, fun _ => ⟨by rw [hsz]; exact hd.cl, by rw [h2, hd.sa, hd.of]; exact hj⟩, fun q => by omega⟩, by omega, (stt _ _ hvb).1, (stt _ _ hvb).2, .inl ⟨by rw [hge]; exact decide_eq_false hd.G, e1, e2, .inr ⟨h1, hge, h2, .inr ⟨hsz, .inr ⟨fun y n1 n2 n3 n4 n5 => ?_, .inr ⟨?_, oE, .inr ⟨rfl, ?_, .inl ⟨by rw [h1], by omega⟩⟩⟩⟩⟩⟩⟩⟩
  ·rw [store_w, upd_ne _ _ n4, by_w]; exact fr y n1 n2 n3 n4 n5
  ·rw [store_w, upd_ne _ _ (by omega), by_w]; exact hsl
  ·rw [store_w, upd_same]; exact ewv
 ·have e : m.step C who A = ((m.g.step C who A).1, { m with g := (m.g.step C who A).2.1 }, (m.g.step C who A).2.2) := by
   unfold Dm.step; rw [if_neg (by omega), if_neg (by omega), if_neg (by omega), if_neg (by omega), if_neg (by omega), if_neg (by omega)]
  have fit : (0 ≤ m.g.top ∧ m.g.top < 18446744073709551616) ∧ m.g.slot = 0 → m.fit C A := fun ⟨q1, q2⟩ => ⟨by omega, by rw [e1]; decide, by rw [h1]; omega, by rw [h2]; exact hd.wb, fun q => by omega, fun q => by omega, fun q => by omega, fun _ => ⟨q1, by rw [q2]; omega⟩⟩
  rw [e]
  rcases hg with ⟨q, hk⟩ | ⟨q, hk⟩ | ⟨q, hk⟩
  ·refine ⟨fit (by rw [q]; exact ⟨(by decide : (0 : Int) ≤ 0 ∧ (0 : Int) < 18446744073709551616), rfl⟩), by omega, ?_⟩
   rw [q, Gv.step0]
   exact ⟨(ld _).1, (ld _).2, .inl ⟨rfl, e1, e2, .inr ⟨h1, hge, h2, .inr ⟨hsz, .inr ⟨fr, .inr ⟨hsl, oE, .inr ⟨h, hlv, .inr (.inl ⟨rfl, by omega⟩)⟩⟩⟩⟩⟩⟩⟩
  ·refine ⟨fit (by rw [q]; exact ⟨ok.w 1, rfl⟩), by omega, ?_⟩
   rw [q, Gv.step1]
   have hvb := putTop_in (topS (A.w 1)) 0
   refine ⟨(stt _ _ hvb).1, (stt _ _ hvb).2, .inl ⟨rfl, e1, e2, .inr ⟨h1, hge, h2, .inr ⟨hsz, .inr ⟨fun y n1 n2 n3 n4 n5 => ?_, .inr ⟨?_, oE, .inr ⟨h, ?_, .inr (.inr ⟨?_, by omega⟩)⟩⟩⟩⟩⟩⟩⟩
   ·rw [store_w, upd_ne _ _ n3, by_w]; exact fr y n1 n2 n3 n4 n5
   ·rw [store_w, upd_ne _ _ (by omega), by_w]; exact hsl
   ·rw [store_w, upd_ne _ _ (by omega), by_w]; exact hlv
   ·rw [store_w, upd_ne _ _ (by omega), by_w]
  ·refine ⟨fit (by rw [q]; exact ⟨ok.w 1, rfl⟩), by omega, ?_⟩
   rw [q, Gv.step2, cy _ _ _ rfl]
   have hvb := putTop_in 0 (topN (A.w 1) + 1)
   refine ⟨(stt _ _ hvb).1, (stt _ _ hvb).2, .inr ⟨decide_eq_true rfl, oE, fun y n1 n2 n3 n4 n5 => ?_, ?_, ?_⟩⟩
   ·rw [store_w, upd_ne _ _ n2, by_w]; exact fr y n1 n2 n3 n4 n5
   ·rw [store_w, upd_ne _ _ (by omega), by_w]; exact hsl
   ·rw [store_w, upd_ne _ _ (by omega), by_w]; exact hlv
theorem c_DropQ (hN : N.ok) (hC : C.ok) (hA : isA N A σ) {z a j ws bb : Int} (hd : DqO C z a j ws A.w) (ok : A.ok bb) (hb : bb < 2305843009213693952) (hn : C.len ≤ A.n)
  (hk : ∀ m A' τ, DqD C z a j A.w m A' → A'.ok (bb + 40) → A'.n = A.n → isA N A' τ → Keep N.l σ τ → K (.agg #[.int .i64 0, .int .u64 m.d.oH, .int .i64 m.d.oV, .int .i64 m.d.oS]) τ) :
  s_ax [N.env C who, .int .u64 65536, .bool false] K σ := by
 refine c_Drop hN hC hA (fun k m A' => DqI C z a j ws A.w k m A' ∧ A'.ok (bb + k) ∧ A'.n = A.n) (fun m A' => DqD C z a j A.w m A' ∧ A'.ok (bb + 40) ∧ A'.n = A.n)
  ⟨⟨rfl, rfl, .inl ⟨rfl, Int.le_refl 0, rfl, rfl, rfl⟩⟩, by simpa using ok, rfl⟩ ?_ (fun m A' h => ?_) ?_
 ·rintro k m A' k0 k1 ⟨h, ok', en⟩
  obtain ⟨h1, h2, h3, h4, h5⟩ := h.step (who := who) hC hd ok' (by omega) (by omega)
  refine ⟨h1, ok'.w, by omega, ?_⟩
  rcases h5 with ⟨d, h'⟩ | ⟨d, h'⟩
  ·rw [if_neg (by rw [d]; decide)]; exact ⟨h', by rw [show bb + (k + 1) = bb + k + 1 by omega]; exact h4, h3.trans en⟩
  ·rw [if_pos d]; exact ⟨h', ok_mono h4 (by omega), h3.trans en⟩
 ·obtain ⟨h, ok', en⟩ := h
  obtain ⟨_, h2, _⟩ := h.step (who := who) hC hd ok' (by omega) (by omega)
  omega
 ·rintro m A' τ ⟨hD, o, en⟩ hA' hK
  rw [hD.e]
  exact hk m A' τ hD o en hA' hK
end Go.Fl
namespace Go.Fl
open Go
set_option linter.unusedVariables false
set_option linter.unusedSimpArgs false
variable {N : Nm} {A B : Ar} {σ : Mem} {K : Value → Mem → Prop} {C : Cf} {who : Int}
structure Mpc (C : Cf) (z c : Int) (T : Int → Int) (m : Mv) (w : Int → Int) : Prop where
 a : m.a.addr = C.base c ∧ m.a.hs = 0 ∧ m.a.hz = z
 i : 0 ≤ m.a.i ∧ m.a.i ≤ z
 p0 : 0 ≤ m.a.pc ∧ m.a.pc ≤ 11
 p1 : m.a.pc = 1 → ∃ k, PlG C (classOf z) T k m.t w
 p3 : m.a.pc = 4 ∨ m.a.pc = 5 ∨ m.a.pc = 6 → m.a.i < z
 p4 : m.a.pc = 2 ∨ m.a.pc = 6 ∨ m.a.pc = 8 ∨ m.a.pc = 9 ∨ m.a.pc = 11 → m.a.sa = C.base (c + 1) ∧ m.a.sc = c + 1
theorem MI.mpc {P : Prop} {z c V st q : Int} {T L : Int → Int} {loc : Bool} {m : Mv} {w : Int → Int} (h : MI P C z c T L V st loc q m w) : Mpc C z c T m w := by
 obtain ⟨c1, c2, c3, c4, c5, c6⟩ := h.con
 have hib := h.ib
 have pcs : (0 ≤ m.a.pc ∧ m.a.pc ≤ 11) ∧ (m.a.pc = 1 → ∃ k, PlG C (classOf z) T k m.t w) ∧ (m.a.pc = 4 ∨ m.a.pc = 5 ∨ m.a.pc = 6 → m.a.i < z) ∧ (m.a.pc = 2 ∨ m.a.pc = 6 ∨ m.a.pc = 8 ∨ m.a.pc = 9 ∨ m.a.pc = 11 → m.a.sa = C.base (c + 1) ∧ m.a.sc = c + 1) := by
  rcases h.ph with ⟨_, _, _, ⟨g1, g2, g3, ⟨g4, _⟩ | ⟨g4, _, _, k, g7, _⟩⟩ | ⟨g1, g2, g3, ⟨_, g4, _⟩ | ⟨_, ⟨_, g4, _⟩ | ⟨_, g4, _⟩ | ⟨_, Vm, _, _, _, g4, _⟩ | ⟨_, g4, _⟩⟩⟩⟩ | ⟨_, _, _, _, g2, _, _, ⟨g4, _⟩ | ⟨_, ⟨g4, _⟩ | ⟨g4, _⟩⟩⟩
  ·exact ⟨by omega, fun x => by omega, fun x => by omega, fun x => by omega⟩
  ·exact ⟨by omega, fun _ => ⟨k, g7⟩, fun x => by omega, fun x => by omega⟩
  ·exact ⟨by omega, fun x => by omega, fun x => by omega, fun _ => g2⟩
  ·exact ⟨by omega, fun x => by omega, fun x => by omega, fun _ => g2⟩
  ·exact ⟨by omega, fun x => by omega, fun x => by omega, fun _ => g2⟩
  ·exact ⟨by omega, fun x => by omega, fun x => by omega, fun _ => g2⟩
  ·exact ⟨by omega, fun x => by omega, fun x => by omega, fun _ => g2⟩
  ·exact ⟨by omega, fun x => by omega, fun x => by omega, fun _ => g2⟩
  ·exact ⟨by omega, fun x => by omega, fun x => by omega, fun _ => g2⟩
  ·exact ⟨by omega, fun x => by omega, fun x => by omega, fun _ => g2⟩
 exact ⟨⟨c1, c4, c3⟩, hib, pcs.1, pcs.2.1, pcs.2.2.1, pcs.2.2.2⟩
theorem Mpc.lvs {z c j : Int} {T : Int → Int} {m : Mv} (g : Geo C z c) (h : Mpc C z c T m A.w) (hT : TbM C z c T) (j0 : 0 ≤ j ∧ j < C.C) (j1 : j ≠ c) (j2 : j ≠ c + 1) : (m.step C who A).2.2.w (C.chunk j + 1) = A.w (C.chunk j + 1) := by
 have e := g.eq
 have ez := e.zb; have ek := e.kb; have eb := e.nb; have eW := e.Wb; have eb0 := e.b0; have eC := e.Cb; have eS := e.Sb; have eT := e.Tb; have ec := g.hc; have es := e.s
 have ech := e.ch j; have ech1 := e.ch c; have ech2 := e.ch (c + 1)
 by_cases p : m.a.pc = 1
 ·obtain ⟨k, hp⟩ := h.p1 p
  obtain ⟨⟨x, hx, hxx⟩, _⟩ := hp.step (who := who) g.hC hT.tb
  have e1 : (m.step C who A).2.2 = (m.t.step C who A).2.2 := by
   unfold Mv.step; rw [if_neg (by omega), if_pos p]; (repeat' split) <;> rfl
  have hne : C.chunk j + 1 ≠ x := by
   rcases hx with q | ⟨i, i0, i1, q⟩
   ·omega
   ·have := e.ch i; omega
  rw [e1]
  rcases hxx with q | ⟨v, _, q⟩
  ·rw [q]; rfl
  ·rw [q, store_w]; exact upd_ne _ _ hne
 ·refine Mv.only ⟨h.p0.1, h.p0.2, p⟩ ?_
  have hp4 := h.p4; have hp3 := h.p3; have hp0 := h.p0; have hi := h.i
  unfold Mv.adr
  rw [h.a.1, h.a.2.1, e.of]
  by_cases c1 : m.a.pc = 0 ∨ m.a.pc = 3 ∨ m.a.pc = 7
  ·rw [if_pos c1]; omega
  ·rw [if_neg c1]
   by_cases c2 : m.a.pc = 4 ∨ m.a.pc = 5
   ·rw [if_pos c2]; omega
   ·rw [if_neg c2]
    by_cases c3 : m.a.pc = 6
    ·rw [if_pos c3, (hp4 (by omega)).1]; omega
    ·rw [if_neg c3]
     by_cases c4 : m.a.pc = 9
     ·rw [if_pos c4, (hp4 (by omega)).2]; omega
     ·rw [if_neg c4]
      by_cases c5 : m.a.pc = 10
      ·rw [if_pos c5]; omega
      ·rw [if_neg c5, (hp4 (by omega)).1]; omega
theorem Mpc.fit {z c : Int} {T : Int → Int} {m : Mv} (g : Geo C z c) (h : Mpc C z c T m A.w) (hT : TbM C z c T) (hw : 0 ≤ m.a.w ∧ m.a.w < 18446744073709551616) (hce : 0 ≤ m.a.cell ∧ m.a.cell < 18446744073709551616) (hnn : 0 ≤ m.a.nn ∧ m.a.nn ≤ 3) (hn : C.len ≤ A.n) (hn2 : (A.n : Int) ≤ 200000000) : m.fit C A := by
 have e := g.eq
 have ez := e.zb; have ek := e.kb; have er := e.rb; have eb := e.nb; have eW := e.Wb; have eb0 := e.b0; have el := e.l1; have eC := e.Cb; have eS := e.Sb; have eT := e.Tb; have ec := g.hc
 obtain ⟨c1, c4, c3⟩ := h.a
 have hib := h.i
 have p3 := h.p3; have p4 := h.p4
 refine ⟨h.p0, by rw [c4]; omega, hw, hce, by rw [c3]; exact g.hz, by omega, by omega, hn2, fun x => ?_, fun x => ?_, fun x => ?_, fun x => ?_, fun x => ?_, fun x => ?_⟩
 ·obtain ⟨k, q⟩ := h.p1 x; exact q.fit g.hC hT.tb
 ·have := p4 (by omega); omega
 ·have := p3 (by omega); rw [c1]; omega
 ·have := p3 (by omega); have := p4 (by omega); omega
 ·have := p4 (by omega); omega
 ·rw [c1, e.of]; omega
structure Ddi (C : Cf) (z c : Int) (T : Int → Int) (q : Int) (m : Mv) (w : Int → Int) : Prop where
  con : m.a.addr = C.base c ∧ m.a.hk = 2 ∧ m.a.hz = z ∧ m.a.hs = 0 ∧ m.a.hg = 1 ∧ m.a.ho = false
  wb : 0 ≤ m.a.w ∧ m.a.w < 18446744073709551616
  cb : 0 ≤ m.a.cell ∧ m.a.cell < 18446744073709551616
  ib : 0 ≤ m.a.i ∧ m.a.i ≤ z
  nb : 0 ≤ m.a.nn ∧ m.a.nn ≤ 1
  sl : w (C.slot 0) = nQ
  lo : ∀ j, 0 ≤ j → j < C.C → j ≠ c → j ≠ c + 1 → w (C.chunk j + 1) = 0
  ph : (w (C.chunk c + 1) = 0 ∧ w (C.chunk (c + 1) + 1) = 0 ∧
      (m.a.got = false ∧ m.a.nn = 0 ∧ (m.a.pc = 0 ∧ 1 ≤ q ∨ m.a.pc = 1 ∧ slS m.a.w = 1 ∧ ∃ k, PlG C (classOf z) T k m.t w ∧ 0 ≤ k ∧ 80 - k ≤ q) ∨
       m.a.got = true ∧ (m.a.sa = C.base (c + 1) ∧ m.a.sc = c + 1) ∧
        (m.a.nn = 0 ∧ slS m.a.w = 1 ∧ (m.a.pc = 2 ∧ 4 ≤ q ∨ m.a.pc = 3 ∧ 3 ≤ q) ∨ m.a.pc = 0 ∧ 2 ≤ q ∨ m.a.pc = 11 ∧ m.a.out = 2 ∧ 1 ≤ q ∨
         m.a.nn = 0 ∧ (m.a.pc = 4 ∧ m.a.i < z ∨ m.a.pc = 5 ∧ m.a.i < z ∨ m.a.pc = 6 ∧ m.a.i < z ∨ m.a.pc = 7 ∧ m.a.i = z) ∧
          3 * (z - m.a.i) + 3 + (if m.a.pc = 5 then (if w (C.base c + 1 + m.a.i) = m.a.cell then -1 else 1) else if m.a.pc = 6 then -2 else 0) ≤ q))) ∨
    m.a.got = true ∧ (m.a.sa = C.base (c + 1) ∧ m.a.sc = c + 1) ∧ w (C.chunk c + 1) = roomOf (classOf z) ∧
      (m.a.pc = 8 ∧ w (C.chunk (c + 1) + 1) = IntKind.u64.wrap (0 + IntKind.u64.wrap (-roomOf (classOf z))) ∧ 3 ≤ q ∨
       w (C.base (c + 1)) = putHead 2 z 0 1 false ∧ (m.a.pc = 9 ∧ w (C.chunk (c + 1) + 1) = IntKind.u64.wrap (0 + IntKind.u64.wrap (-roomOf (classOf z))) ∧ 2 ≤ q ∨ m.a.pc = 10 ∧ w (C.chunk (c + 1) + 1) = 0 ∧ 1 ≤ q))
structure Ddd (C : Cf) (z c : Int) (m : Mv) (w : Int → Int) : Prop where
 sl : w (C.slot 0) = nQ
 lv : ∀ j, 0 ≤ j → j < C.C → w (C.chunk j + 1) = 0
 r : m.a.out = 2 ∧ (m.a.got = false ∨ m.a.got = true ∧ m.a.sa = C.base (c + 1) ∧ w (C.base (c + 1)) = putHead 3 z 0 1 false) ∨ m.a.out = 1 ∧ m.a.got = true ∧ m.a.sa = C.base (c + 1) ∧ w (C.base (c + 1)) = putHead 2 z 0 1 false
theorem Ddi.mpc {z c q : Int} {T : Int → Int} {m : Mv} {w : Int → Int} (h : Ddi C z c T q m w) : Mpc C z c T m w := by
 obtain ⟨c1, c2, c3, c4, c5, c6⟩ := h.con
 have hib := h.ib
 have pcs : (0 ≤ m.a.pc ∧ m.a.pc ≤ 11) ∧ (m.a.pc = 1 → ∃ k, PlG C (classOf z) T k m.t w) ∧ (m.a.pc = 4 ∨ m.a.pc = 5 ∨ m.a.pc = 6 → m.a.i < z) ∧ (m.a.pc = 2 ∨ m.a.pc = 6 ∨ m.a.pc = 8 ∨ m.a.pc = 9 ∨ m.a.pc = 11 → m.a.sa = C.base (c + 1) ∧ m.a.sc = c + 1) := by
  rcases h.ph with ⟨_, _, ⟨_, _, ⟨g4, _⟩ | ⟨g4, _, k, g7, _⟩⟩ | ⟨_, g2, ⟨_, _, ⟨g4, _⟩ | ⟨g4, _⟩⟩ | ⟨g4, _⟩ | ⟨g4, _⟩ | ⟨_, g4, _⟩⟩⟩ | ⟨_, g2, _, ⟨g4, _⟩ | ⟨_, ⟨g4, _⟩ | ⟨g4, _⟩⟩⟩
  ·exact ⟨by omega, fun x => by omega, fun x => by omega, fun x => by omega⟩
  ·exact ⟨by omega, fun _ => ⟨k, g7⟩, fun x => by omega, fun x => by omega⟩
  ·exact ⟨by omega, fun x => by omega, fun x => by omega, fun _ => g2⟩
  ·exact ⟨by omega, fun x => by omega, fun x => by omega, fun _ => g2⟩
  ·exact ⟨by omega, fun x => by omega, fun x => by omega, fun _ => g2⟩
  ·exact ⟨by omega, fun x => by omega, fun x => by omega, fun _ => g2⟩
  ·exact ⟨by omega, fun x => by omega, fun x => by omega, fun _ => g2⟩
  ·exact ⟨by omega, fun x => by omega, fun x => by omega, fun _ => g2⟩
  ·exact ⟨by omega, fun x => by omega, fun x => by omega, fun _ => g2⟩
  ·exact ⟨by omega, fun x => by omega, fun x => by omega, fun _ => g2⟩
 exact ⟨⟨c1, c4, c3⟩, hib, pcs.1, pcs.2.1, pcs.2.2.1, pcs.2.2.2⟩
theorem Ddi.step {z c q bb : Int} {T : Int → Int} {m : Mv} (g : Geo C z c) (h : Ddi C z c T q m A.w) (hT : TbM C z c T) (ok : A.ok bb) (hb : bb < 4611686018427387904) :
  1 ≤ q ∧ (m.step C who A).2.2.n = A.n ∧ (m.step C who A).2.2.ok (bb + 1) ∧
  ((m.step C who A).1 = false ∧ Ddi C z c T (q - 1) (m.step C who A).2.1 (m.step C who A).2.2.w ∨ (m.step C who A).1 = true ∧ Ddd C z c (m.step C who A).2.1 (m.step C who A).2.2.w) := by
 have hC := g.hC
 have e := g.eq
 have ez := e.zb; have ek := e.kb; have er := e.rb; have eb := e.nb; have eW := e.Wb; have eb0 := e.b0; have el := e.l1; have el2 := e.l2; have eC := e.Cb; have eS := e.Sb; have eT := e.Tb; have ec := g.hc; have es := e.s
 have ech1 := e.ch c; have ech2 := e.ch (c + 1)
 have eR := g.hR
 obtain ⟨c1, c2, c3, c4, c5, c6⟩ := h.con
 have hwb := h.wb; have hcb := h.cb; have hib := h.ib; have hnb := h.nb; have hsl := h.sl
 obtain ⟨n1, n2, n3⟩ := nQ_f
 have hlo : ∀ j, 0 ≤ j → j < C.C → j ≠ c → j ≠ c + 1 → (m.step C who A).2.2.w (C.chunk j + 1) = 0 := fun j j0 j1 j2 j3 => by rw [h.mpc.lvs g hT ⟨j0, j1⟩ j2 j3]; exact h.lo j j0 j1 j2 j3
 have tl : ∀ x, ((A.by who).load x).n = A.n ∧ ((A.by who).load x).ok (bb + 1) := fun x => ⟨rfl, (aft_load (who := who) (A := A) (a := x) ok (by omega)).ok (by decide) ok ok.w⟩
 have ts : ∀ x v, 0 ≤ v ∧ v < 18446744073709551616 → ((A.by who).store x v).n = A.n ∧ ((A.by who).store x v).ok (bb + 1) := fun x v hv => by
  have a1 := aft_store (who := who) (A := A) (a := x) (v := v) ok (by omega)
  exact ⟨a1.n, a1.ok (by omega) ok fun i => upd_cases (P := fun x => 0 ≤ x ∧ x < 18446744073709551616) hv (ok.w i)⟩
 have cy : ∀ x o v, A.w x = o → (A.by who).cas x o v = (A.by who).store x v := fun x o v e => cas_yes (show (A.by who).w x = o from e)
 have cn : ∀ x o v, A.w x ≠ o → (A.by who).cas x o v = (A.by who).load x := fun x o v e => cas_no (show (A.by who).w x ≠ o from e)
 have lw : ∀ x, ((A.by who).load x).w = A.w := fun _ => rfl
 have sw : ∀ y v, ((A.by who).store y v).w = upd A.w y v := fun y v => store_w
 have hws := ok.w (C.slot m.a.hs)
 have esl : C.slot m.a.hs = C.slot 0 := by rw [c4]
 have see : m.a.pc = 0 → m.step C who A = (!m.a.got, { m with a := ({ m.a with w := A.w (C.slot m.a.hs) } : Mo).endm 2 }, (A.by who).load (C.slot m.a.hs)) := fun p => by
  unfold Mv.step; rw [if_pos p, if_neg (by rw [esl, hsl, n1]; omega), if_pos (by rw [esl, hsl, n1]; omega)]
 have hlv : ∀ w' : Int → Int, w' (C.chunk c + 1) = 0 → w' (C.chunk (c + 1) + 1) = 0 → (∀ j, 0 ≤ j → j < C.C → j ≠ c → j ≠ c + 1 → w' (C.chunk j + 1) = 0) → ∀ j, 0 ≤ j → j < C.C → w' (C.chunk j + 1) = 0 := fun w' q1 q2 q3 j j0 j1 => by
  by_cases a : j = c
  ·rw [a]; exact q1
  ·by_cases b : j = c + 1
   ·rw [b]; exact q2
   ·exact q3 j j0 j1 a b
 rcases h.ph with ⟨l1, l2, ⟨g1, g2, ⟨p, g4⟩ | ⟨p, g4, k, g7, g8, g9⟩⟩ | ⟨g1, g2, ⟨g3, g4, ⟨p, g5⟩ | ⟨p, g5⟩⟩ | ⟨p, g5⟩ | ⟨p, g5, g6⟩ | ⟨g3, g4, g5⟩⟩⟩ | ⟨g1, g2, l1, ⟨p, l2, g5⟩ | ⟨g6, ⟨p, l2, g5⟩ | ⟨p, l2, g5⟩⟩⟩
 ·have es1 := see p
  rw [es1] at hlo ⊢
  rw [g1]
  exact ⟨by omega, (tl _).1, (tl _).2, .inr ⟨rfl, hsl, hlv _ l1 l2 hlo, .inl ⟨rfl, .inl g1⟩⟩⟩
 ·-- getting words
  have hkl := g7.kle hC
  obtain ⟨⟨x, hx, hxx⟩, hst⟩ := g7.step (who := who) hC hT.tb
  have hxn : x ≠ C.slot 0 ∧ x ≠ C.chunk c + 1 ∧ x ≠ C.chunk (c + 1) + 1 := by
   rcases hx with q | ⟨j, j0, j1, q⟩
   ·omega
   ·have := e.ch j; omega
  have sm : ∀ y, y ≠ x → (m.t.step C who A).2.2.w y = A.w y := fun y hy => by
   rcases hxx with q | ⟨v, hv, q⟩
   ·rw [q]; rfl
   ·rw [q, sw, upd_ne _ _ hy]
  have tt : (m.t.step C who A).2.2.n = A.n ∧ (m.t.step C who A).2.2.ok (bb + 1) := by
   rcases hxx with q | ⟨v, hv, q⟩
   ·rw [q]; exact tl _
   ·rw [q]; exact ts _ _ hv
  have sl' : (m.t.step C who A).2.2.w (C.slot 0) = nQ := by rw [sm _ (Ne.symm hxn.1)]; exact hsl
  have la : (m.t.step C who A).2.2.w (C.chunk c + 1) = 0 := by rw [sm _ (Ne.symm hxn.2.1)]; exact l1
  have lb : (m.t.step C who A).2.2.w (C.chunk (c + 1) + 1) = 0 := by rw [sm _ (Ne.symm hxn.2.2)]; exact l2
  rcases hst with ⟨d, hst⟩ | ⟨d, hst⟩
  ·have es1 : m.step C who A = (false, { m with t := (m.t.step C who A).2.1 }, (m.t.step C who A).2.2) := by
    unfold Mv.step; rw [if_neg (by omega), if_pos p, if_pos d]
   rw [es1] at hlo ⊢
   exact ⟨by omega, tt.1, tt.2, .inl ⟨rfl, h.con, hwb, hcb, hib, hnb, sl', hlo, .inl ⟨la, lb, .inl ⟨g1, g2, .inr ⟨p, g4, k + 1, hst, by omega, by omega⟩⟩⟩⟩⟩
  ·obtain ⟨hcc, ⟨q1, _⟩ | ⟨_, f, hf, o1, o2, o3, o4⟩ | ⟨_, _, _, o4⟩⟩ := hst
   ·exact absurd q1 (hT.ngd ec.1)
   ·have hf1 := hT.ff ec.1 hf
    subst hf1
    have es1 : m.step C who A = (false, ⟨{ m.a with sa := (m.t.step C who A).2.1.sa, sc := (m.t.step C who A).2.1.sc, got := true, pc := 2 }, (m.t.step C who A).2.1⟩, (m.t.step C who A).2.2) := by
     unfold Mv.step; rw [if_neg (by omega), if_pos p, if_neg (by rw [d]; decide), if_pos o1]
    rw [es1] at hlo ⊢
    exact ⟨by omega, tt.1, tt.2, .inl ⟨rfl, h.con, hwb, hcb, hib, hnb, sl', hlo, .inl ⟨la, lb, .inr ⟨rfl, ⟨o3, o2⟩, .inl ⟨g2, g4, .inl ⟨rfl, by omega⟩⟩⟩⟩⟩⟩
   ·have := o4 (c + 1) (by omega) ec.2
    rw [hT.nx] at this
    exact absurd rfl this
 ·-- the copy's head
  have es1 : m.step C who A = (false, { m with a := { m.a with pc := 3 } }, (A.by who).store m.a.sa (m.a.hd 1)) := by
   unfold Mv.step; rw [if_neg (by omega), if_neg (by omega), if_pos p]
  rw [es1, g2.1] at hlo ⊢
  have hv : 0 ≤ m.a.hd 1 ∧ m.a.hd 1 < 18446744073709551616 := putHead_in _ _ _ _ _
  exact ⟨by omega, (ts _ _ hv).1, (ts _ _ hv).2, .inl ⟨rfl, h.con, hwb, hcb, hib, hnb, by rw [sw, upd_ne _ _ (by omega)]; exact hsl, hlo, .inl ⟨by rw [sw, upd_ne _ _ (by omega)]; exact l1, by rw [sw, upd_ne _ _ (by omega)]; exact l2, .inr ⟨g1, g2, .inl ⟨g3, g4, .inr ⟨rfl, by omega⟩⟩⟩⟩⟩⟩
 ·-- marking it fails
  have hne : A.w (C.slot m.a.hs) ≠ m.a.w := fun q => by rw [esl, hsl] at q; rw [← q, n1] at g4; omega
  have es1 : m.step C who A = (false, { m with a := { m.a with i := 0, pc := 0 } }, (A.by who).load (C.slot m.a.hs)) := by
   unfold Mv.step; rw [if_neg (by omega), if_neg (by omega), if_neg (by omega), if_pos p, if_neg hne, cn _ _ _ hne]
  rw [es1] at hlo ⊢
  exact ⟨by omega, (tl _).1, (tl _).2, .inl ⟨rfl, h.con, hwb, hcb, ⟨Int.le_refl 0, by show (0 : Int) ≤ z; omega⟩, hnb, hsl, hlo, .inl ⟨l1, l2, .inr ⟨g1, g2, .inr (.inl ⟨rfl, by omega⟩)⟩⟩⟩⟩
 ·-- it is seen that it is gone
  have es1 := see p
  rw [es1, endm_got (show ({ m.a with w := A.w (C.slot m.a.hs) } : Mo).got = true from g1)] at hlo ⊢
  rw [g1]
  exact ⟨by omega, (tl _).1, (tl _).2, .inl ⟨rfl, h.con, hws, hcb, hib, hnb, hsl, hlo, .inl ⟨l1, l2, .inr ⟨rfl, g2, .inr (.inr (.inl ⟨rfl, rfl, by omega⟩))⟩⟩⟩⟩
 ·-- the copy is dead
  have es1 : m.step C who A = (true, m, (A.by who).store m.a.sa (m.a.hd 3)) := by
   unfold Mv.step; rw [if_neg (by omega), if_neg (by omega), if_neg (by omega), if_neg (by omega), if_neg (by omega), if_neg (by omega), if_neg (by omega), if_neg (by omega), if_neg (by omega), if_neg (by omega), if_neg (by omega)]
  have ehd : m.a.hd 3 = putHead 3 z 0 1 false := by unfold Mo.hd; rw [c3, c4, c5, c6]
  rw [es1, g2.1, ehd] at hlo ⊢
  have hv := putHead_in 3 z 0 1 false
  exact ⟨by omega, (ts _ _ hv).1, (ts _ _ hv).2, .inr ⟨rfl, by rw [sw, upd_ne _ _ (by omega)]; exact hsl, hlv _ (by rw [sw, upd_ne _ _ (by omega)]; exact l1) (by rw [sw, upd_ne _ _ (by omega)]; exact l2) hlo, .inl ⟨g5, .inr ⟨g1, g2.1, by rw [sw, upd_same]⟩⟩⟩⟩
 ·-- a round
  rcases g4 with ⟨p, hi⟩ | ⟨p, hi⟩ | ⟨p, hi⟩ | ⟨p, hi⟩
  ·have es1 : m.step C who A = (false, { m with a := { m.a with cell := A.w (m.a.addr + 1 + m.a.i), pc := if ceF (A.w (m.a.addr + 1 + m.a.i)) = true ∧ ceN (A.w (m.a.addr + 1 + m.a.i)) = slV m.a.w then 6 else 5 } }, (A.by who).load (m.a.addr + 1 + m.a.i)) := by
    unfold Mv.step; rw [if_neg (by omega), if_neg (by omega), if_neg (by omega), if_neg (by omega), if_pos p]
   rw [es1] at hlo ⊢
   rw [p, if_neg (by decide), if_neg (by decide)] at g5
   refine ⟨by omega, (tl _).1, (tl _).2, .inl ⟨rfl, h.con, hwb, ok.w _, hib, hnb, hsl, hlo, .inl ⟨l1, l2, .inr ⟨g1, g2, .inr (.inr (.inr ⟨g3, ?_, ?_⟩))⟩⟩⟩⟩
   ·dsimp only
    by_cases q : ceF (A.w (m.a.addr + 1 + m.a.i)) = true ∧ ceN (A.w (m.a.addr + 1 + m.a.i)) = slV m.a.w
    ·rw [if_pos q]; exact .inr (.inr (.inl ⟨rfl, hi⟩))
    ·rw [if_neg q]; exact .inr (.inl ⟨rfl, hi⟩)
   ·dsimp only
    rw [lw, c1]
    by_cases q : ceF (A.w (C.base c + 1 + m.a.i)) = true ∧ ceN (A.w (C.base c + 1 + m.a.i)) = slV m.a.w
    ·rw [if_pos q, if_neg (by decide), if_pos rfl]; omega
    ·rw [if_neg q, if_pos rfl, if_pos rfl]; omega
  ·have hv := putCell_in (ceV m.a.cell) true (slV m.a.w)
   rw [p, if_pos rfl] at g5
   by_cases q : A.w (C.base c + 1 + m.a.i) = m.a.cell
   ·have es1 : m.step C who A = (false, { m with a := { m.a with pc := 6 } }, (A.by who).store (C.base c + 1 + m.a.i) (putCell (ceV m.a.cell) true (slV m.a.w))) := by
     unfold Mv.step; rw [if_neg (by omega), if_neg (by omega), if_neg (by omega), if_neg (by omega), if_neg (by omega), if_pos p, c1, if_pos q, cy _ _ _ q]
    rw [es1] at hlo ⊢
    rw [if_pos q] at g5
    refine ⟨by omega, (ts _ _ hv).1, (ts _ _ hv).2, .inl ⟨rfl, h.con, hwb, hcb, hib, hnb, by rw [sw, upd_ne _ _ (by omega)]; exact hsl, hlo, .inl ⟨by rw [sw, upd_ne _ _ (by omega)]; exact l1, by rw [sw, upd_ne _ _ (by omega)]; exact l2, .inr ⟨g1, g2, .inr (.inr (.inr ⟨g3, .inr (.inr (.inl ⟨rfl, hi⟩)), ?_⟩))⟩⟩⟩⟩
    dsimp only
    rw [if_neg (by decide), if_pos rfl]; omega
   ·have es1 : m.step C who A = (false, { m with a := { m.a with pc := 4 } }, (A.by who).load (C.base c + 1 + m.a.i)) := by
     unfold Mv.step; rw [if_neg (by omega), if_neg (by omega), if_neg (by omega), if_neg (by omega), if_neg (by omega), if_pos p, c1, if_neg q, cn _ _ _ q]
    rw [es1] at hlo ⊢
    rw [if_neg q] at g5
    refine ⟨by omega, (tl _).1, (tl _).2, .inl ⟨rfl, h.con, hwb, hcb, hib, hnb, hsl, hlo, .inl ⟨l1, l2, .inr ⟨g1, g2, .inr (.inr (.inr ⟨g3, .inl ⟨rfl, hi⟩, ?_⟩))⟩⟩⟩⟩
    dsimp only
    rw [if_neg (by decide), if_neg (by decide)]; omega
  ·have hv := putCell_in (ceV m.a.cell) false 0
   have es1 : m.step C who A = (false, { m with a := { m.a with i := m.a.i + 1, pc := if m.a.hz ≤ m.a.i + 1 then 7 else 4 } }, (A.by who).store (C.base (c + 1) + 1 + m.a.i) (putCell (ceV m.a.cell) false 0)) := by
    unfold Mv.step; rw [if_neg (by omega), if_neg (by omega), if_neg (by omega), if_neg (by omega), if_neg (by omega), if_neg (by omega), if_pos p, g2.1]
   rw [es1] at hlo ⊢
   rw [p, if_neg (by decide), if_pos rfl] at g5
   refine ⟨by omega, (ts _ _ hv).1, (ts _ _ hv).2, .inl ⟨rfl, h.con, hwb, hcb, ⟨by dsimp only; omega, by dsimp only; omega⟩, hnb, by rw [sw, upd_ne _ _ (by omega)]; exact hsl, hlo, .inl ⟨by rw [sw, upd_ne _ _ (by omega)]; exact l1, by rw [sw, upd_ne _ _ (by omega)]; exact l2, .inr ⟨g1, g2, .inr (.inr (.inr ⟨g3, ?_, ?_⟩))⟩⟩⟩⟩
   ·dsimp only
    rw [c3]
    by_cases q : z ≤ m.a.i + 1
    ·rw [if_pos q]; exact .inr (.inr (.inr ⟨rfl, by omega⟩))
    ·rw [if_neg q]; exact .inl ⟨rfl, by omega⟩
   ·dsimp only
    rw [c3]
    by_cases q : z ≤ m.a.i + 1
    ·rw [if_pos q, if_neg (by decide), if_neg (by decide)]; omega
    ·rw [if_neg q, if_neg (by decide), if_neg (by decide)]; omega
  ·rw [p, if_neg (by decide), if_neg (by decide)] at g5
   have hne : A.w (C.slot m.a.hs) ≠ m.a.as 2 m.a.addr 0 := fun q => by
    rw [esl, hsl] at q
    have h2 := (sl_put' (st := 2) (ad := m.a.addr) (ge := slG m.a.w) (ve := slV m.a.w + 0) (by decide) (by rw [c1]; omega) (by unfold slG; omega)).1
    have : slS nQ = 2 := by rw [q]; exact h2
    omega
   have es1 : m.step C who A = (false, { m with a := { m.a with pc := 0, nn := m.a.nn + 1 } }, (A.by who).load (C.slot m.a.hs)) := by
    unfold Mv.step; rw [if_neg (by omega), if_neg (by omega), if_neg (by omega), if_neg (by omega), if_neg (by omega), if_neg (by omega), if_neg (by omega), if_pos p, if_neg hne, if_neg (by omega), cn _ _ _ hne]
   rw [es1] at hlo ⊢
   exact ⟨by omega, (tl _).1, (tl _).2, .inl ⟨rfl, h.con, hwb, hcb, hib, ⟨by dsimp only; omega, by dsimp only; omega⟩, hsl, hlo, .inl ⟨l1, l2, .inr ⟨g1, g2, .inr (.inl ⟨rfl, by omega⟩)⟩⟩⟩⟩
 ·-- the copy is ready
  have es1 : m.step C who A = (false, { m with a := { m.a with pc := 9 } }, (A.by who).store (C.base (c + 1)) (putHead 2 z 0 1 false)) := by
   unfold Mv.step; rw [if_neg (by omega), if_neg (by omega), if_neg (by omega), if_neg (by omega), if_neg (by omega), if_neg (by omega), if_neg (by omega), if_neg (by omega), if_pos p, g2.1]
   unfold Mo.hd; rw [c3, c4, c5, c6]
  rw [es1] at hlo ⊢
  have hv := putHead_in 2 z 0 1 false
  exact ⟨by omega, (ts _ _ hv).1, (ts _ _ hv).2, .inl ⟨rfl, h.con, hwb, hcb, hib, hnb, by rw [sw, upd_ne _ _ (by omega)]; exact hsl, hlo, .inr ⟨g1, g2, by rw [sw, upd_ne _ _ (by omega)]; exact l1, .inr ⟨by rw [sw, upd_same], .inl ⟨rfl, by rw [sw, upd_ne _ _ (by omega)]; exact l2, by omega⟩⟩⟩⟩⟩
 ·-- adding
  have es1 : m.step C who A = (false, { m with a := { m.a with pc := 10 } }, (A.by who).store (C.chunk (c + 1) + 1) 0) := by
   unfold Mv.step; rw [if_neg (by omega), if_neg (by omega), if_neg (by omega), if_neg (by omega), if_neg (by omega), if_neg (by omega), if_neg (by omega), if_neg (by omega), if_neg (by omega), if_pos p, g2.2, c3, add_eq, by_w, l2]
   have : IntKind.u64.wrap (IntKind.u64.wrap (0 + IntKind.u64.wrap (-roomOf (classOf z))) + IntKind.u64.wrap (roomOf (classOf z))) = 0 := by rw [IntKind.wrap_u64, IntKind.wrap_u64, IntKind.wrap_u64, IntKind.wrap_u64]; omega
   rw [this]
  rw [es1] at hlo ⊢
  have hv : (0 : Int) ≤ 0 ∧ (0 : Int) < 18446744073709551616 := by decide
  exact ⟨by omega, (ts _ _ hv).1, (ts _ _ hv).2, .inl ⟨rfl, h.con, hwb, hcb, hib, hnb, by rw [sw, upd_ne _ _ (by omega)]; exact hsl, hlo, .inr ⟨g1, g2, by rw [sw, upd_ne _ _ (by omega)]; exact l1, .inr ⟨by rw [sw, upd_ne _ _ (by omega)]; exact g6, .inr ⟨rfl, by rw [sw, upd_same], by omega⟩⟩⟩⟩⟩
 ·-- taking
  have es1 : m.step C who A = (true, { m with a := { m.a with out := 1 } }, (A.by who).store (C.chunk c + 1) 0) := by
   unfold Mv.step; rw [if_neg (by omega), if_neg (by omega), if_neg (by omega), if_neg (by omega), if_neg (by omega), if_neg (by omega), if_neg (by omega), if_neg (by omega), if_neg (by omega), if_neg (by omega), if_pos p, c1, e.of, c3, add_eq, by_w, l1]
   have : IntKind.u64.wrap (roomOf (classOf z) + IntKind.u64.wrap (-roomOf (classOf z))) = 0 := by rw [IntKind.wrap_u64, IntKind.wrap_u64]; omega
   rw [this]
  rw [es1] at hlo ⊢
  have hv : (0 : Int) ≤ 0 ∧ (0 : Int) < 18446744073709551616 := by decide
  exact ⟨by omega, (ts _ _ hv).1, (ts _ _ hv).2, .inr ⟨rfl, by rw [sw, upd_ne _ _ (by omega)]; exact hsl, hlv _ (by rw [sw, upd_same]) (by rw [sw, upd_ne _ _ (by omega)]; exact l2) hlo, .inr ⟨rfl, g1, g2.1, by rw [sw, upd_ne _ _ (by omega)]; exact g6⟩⟩⟩
end Go.Fl
namespace Go.Fl
open Go
set_option linter.unusedVariables false
set_option linter.unusedSimpArgs false
variable {N : Nm} {A B : Ar} {σ : Mem} {K : Value → Mem → Prop} {C : Cf} {who : Int}
def Lvo (C : Cf) (c : Int) (w : Int → Int) : Prop := ∀ j, 0 ≤ j → j < C.C → j ≠ c → j ≠ c + 1 → w (C.chunk j + 1) = 0
theorem Lvo.step {z c V st q : Int} {P : Prop} {T L : Int → Int} {loc : Bool} {m : Mv} (g : Geo C z c) (h : MI P C z c T L V st loc q m A.w) (hT : TbM C z c T) (o : Lvo C c A.w) : Lvo C c (m.step C who A).2.2.w :=
 fun j j0 j1 j2 j3 => by rw [h.mpc.lvs g hT ⟨j0, j1⟩ j2 j3]; exact o j j0 j1 j2 j3
theorem DqO.make {z c V st : Int} (g : Geo C z c) {loc : Bool} {L w : Int → Int} (h : Smv C z c L V st loc w) (hG : ¬ C.G ≤ 1) : DqO C z (Cur C c loc) (if loc = true then c + 1 else c) (putSlot st (Cur C c loc) 1 V) w := by
 have e := g.eq
 have ez := e.zb; have eb := e.nb; have eW := e.Wb; have eb0 := e.b0; have el := e.l1; have el2 := e.l2; have eC := e.Cb; have eS := e.Sb; have eT := e.Tb; have ec := g.hc
 have cu : Cur C c loc = C.base c ∧ loc = false ∨ Cur C c loc = C.base (c + 1) ∧ loc = true := by unfold Cur; cases loc with | true => exact .inr ⟨rfl, rfl⟩ | false => exact .inl ⟨rfl, rfl⟩
 obtain ⟨p1, p2, p3, p4⟩ := sl_put (st := st) (ad := Cur C c loc) (ge := 1) (ve := V) (by have := h.sb.1; omega) (by rcases cu with ⟨q, _⟩ | ⟨q, _⟩ <;> omega) (by decide) h.vb
 have hof : ofC C (C.base (c + 1)) = c + 1 := by
  have := (base_of g.hC (j := c + 1) (i := 0) (by omega) (by omega) (by omega) (by omega)).1
  rw [Int.add_zero] at this; exact this
 obtain ⟨k1, k2, k3, k4, k5⟩ := hd_put (k := 2) (s := z) (t := 0) (g := 1) (o := false) (by decide) (by omega) (by decide) (by decide)
 refine ⟨h.sl, by rw [p1]; exact h.sb.1, p2, p3, putSlot_in _ _ _ _, ?_, ez, g.hz, ?_, ?_, ?_, hG⟩
 ·rcases cu with ⟨q, _⟩ | ⟨q, ql⟩
  ·rw [q, h.hda]; exact ⟨k2, k5⟩
  ·obtain ⟨⟨k, kb, hk⟩, _⟩ := h.lt ql
   obtain ⟨j1, j2, j3, j4, j5⟩ := hd_put (k := k) (s := z) (t := 0) (g := 1) (o := false) kb (by omega) (by decide) (by decide)
   rw [q, hk]; exact ⟨j2, j5⟩
 ·cases loc with
  | true => rw [if_pos rfl]; omega
  | false => rw [if_neg (by decide)]; omega
 ·rcases cu with ⟨q, _⟩ | ⟨q, _⟩ <;> omega
 ·rcases cu with ⟨q, ql⟩ | ⟨q, ql⟩
  ·rw [q, ql, if_neg (by decide)]; exact e.of
  ·rw [q, ql, if_pos rfl]; exact hof
theorem DqD.same {z c : Int} {loc : Bool} {m : Dm} {w0 : Int → Int} (g : Geo C z c) (h : DqD C z (Cur C c loc) (if loc = true then c + 1 else c) w0 m B) :
  (∀ j, 0 ≤ j → j < C.C → B.w (C.chunk j) = w0 (C.chunk j)) ∧ B.w (2 + classOf z) = w0 (2 + classOf z) ∧ B.w (C.base (c + 1)) = w0 (C.base (c + 1)) ∧ (∀ j, 0 ≤ j → j < C.C → j ≠ (if loc = true then c + 1 else c) → B.w (C.chunk j + 1) = w0 (C.chunk j + 1)) := by
 have e := g.eq
 have ez := e.zb; have ek := e.kb; have eb := e.nb; have eW := e.Wb; have eb0 := e.b0; have el := e.l1; have el2 := e.l2; have eC := e.Cb; have eS := e.Sb; have eT := e.Tb; have ec := g.hc; have es := e.s
 have hr := e.rb
 have cu : Cur C c loc = C.base c ∨ Cur C c loc = C.base (c + 1) := by unfold Cur; split; exact .inr rfl; exact .inl rfl
 have jj : (if loc = true then c + 1 else c) = c ∨ (if loc = true then c + 1 else c) = c + 1 := by split; exact .inr rfl; exact .inl rfl
 have ech := e.ch (if loc = true then c + 1 else c)
 refine ⟨fun j j0 j1 => ?_, ?_, ?_, fun j j0 j1 j2 => ?_⟩
 ·have h1 := e.ch j
  exact h.fr _ (by omega) (by omega) (by omega) (by omega) (by rcases cu with q | q <;> omega)
 ·exact h.fr _ (by omega) (by omega) (by omega) (by omega) (by rcases cu with q | q <;> omega)
 ·exact h.fr _ (by omega) (by omega) (by omega) (by omega) (by rcases cu with q | q <;> omega)
 ·have h1 := e.ch j
  exact h.fr _ (by omega) (by omega) (by omega) (by omega) (by rcases cu with q | q <;> omega)
theorem MI.gone {z c V st q : Int} {T L : Int → Int} {loc : Bool} {m : Mv} {m' : Dm} {w0 : Int → Int} (g : Geo C z c) (h : MI True C z c T L V st loc q m w0) (hcl : Cln m V st) (o : Lvo C c w0) (hD : DqD C z (Cur C c loc) (if loc = true then c + 1 else c) w0 m' B) : Ddi C z c T 80 m B.w := by
 have e := g.eq
 have ez := e.zb; have ek := e.kb; have er := e.rb; have eb := e.nb; have eW := e.Wb; have eb0 := e.b0; have el := e.l1; have el2 := e.l2; have eC := e.Cb; have eS := e.Sb; have eT := e.Tb; have ec := g.hc; have es := e.s
 obtain ⟨s1, s2, s3, s4⟩ := hD.same g
 have hib := h.ib
 have hn := hcl.n
 have lo : ∀ j, 0 ≤ j → j < C.C → j ≠ c → j ≠ c + 1 → B.w (C.chunk j + 1) = 0 := fun j j0 j1 j2 j3 => by
  rw [s4 j j0 j1 (by split <;> assumption)]; exact o j j0 j1 j2 j3
 have slw : ∀ V', 0 ≤ V' ∧ V' ≤ 4194303 → slS (putSlot 1 (C.base c) 1 V') = 1 := fun V' hv => (sl_put (by decide) (by omega) (by decide) hv).1
 have bd : 3 * (z - m.a.i) + 3 + (if m.a.pc = 5 then (if B.w (C.base c + 1 + m.a.i) = m.a.cell then (-1 : Int) else 1) else if m.a.pc = 6 then -2 else 0) ≤ 80 := by
  (repeat' split) <;> omega
 refine ⟨h.con, h.wb, h.cb, hib, by omega, hD.sl, lo, ?_⟩
 rcases h.ph with ⟨hl, _, hc, hh⟩ | ⟨hl, _, _, g1, g2, _, _, hh⟩
 ·subst hl
  have hlv := hD.lv
  have c1 : B.w (C.chunk c + 1) = 0 := by
   rw [if_neg (by decide)] at hlv
   rw [hlv]; unfold lQ; rw [(hc trivial).1, IntKind.wrap_u64, IntKind.wrap_u64]; omega
  have c2 : B.w (C.chunk (c + 1) + 1) = 0 := by
   rw [s4 (c + 1) (by omega) (by omega) (by rw [if_neg (by decide)]; omega)]; exact (hc trivial).2
  refine .inl ⟨c1, c2, ?_⟩
  rcases hh with ⟨_, g2, _, ⟨p, _⟩ | ⟨p, g4, g5, k, g6, g7, _⟩⟩ | ⟨g1, g2, _, ⟨_, p, g4, g5, _⟩ | ⟨_, ⟨_, p, g4, g5, _⟩ | ⟨_, p, _⟩ | ⟨_, Vm, g4, g5, g6, g7, _⟩ | ⟨_, p, _⟩⟩⟩
  ·exact .inl ⟨g2, hn, .inl ⟨p, by omega⟩⟩
  ·exact .inl ⟨g2, hn, .inr ⟨p, by rw [g4]; exact slw V h.vb, k, g6.keep ⟨s2, s1⟩, g7, by omega⟩⟩
  ·exact .inr ⟨g1, g2, .inl ⟨hn, by rw [g4]; exact slw V h.vb, .inl ⟨p, by omega⟩⟩⟩
  ·exact .inr ⟨g1, g2, .inl ⟨hn, by rw [g4]; exact slw V h.vb, .inr ⟨p, by omega⟩⟩⟩
  ·have := (hcl.p0 p).1; rw [g1] at this; cases this
  ·exact .inr ⟨g1, g2, .inr (.inr (.inr ⟨hn, g7, bd⟩))⟩
  ·exact absurd p hcl.p
 ·subst hl
  have hlv := hD.lv
  have c1 : ∀ x, w0 (C.chunk c + 1) = x → B.w (C.chunk c + 1) = x := fun x hx => by
   rw [s4 c (by omega) (by omega) (by rw [if_pos rfl]; omega)]; exact hx
  rw [if_pos rfl] at hlv
  unfold lQ at hlv
  refine .inr ⟨g1, g2, ?_⟩
  rcases hh with ⟨p, _, g3, _⟩ | ⟨g4, ⟨p, g3, _⟩ | ⟨p, g3, _⟩⟩
  ·exact ⟨c1 _ (g3 trivial).1, .inl ⟨p, by rw [hlv, (g3 trivial).2], by omega⟩⟩
  ·exact ⟨c1 _ (g3 trivial).1, .inr ⟨by rw [s3]; exact g4, .inl ⟨p, by rw [hlv, (g3 trivial).2], by omega⟩⟩⟩
  ·exact ⟨c1 _ (g3 trivial).1, .inr ⟨by rw [s3]; exact g4, .inr ⟨p, by rw [hlv, (g3 trivial).2, IntKind.wrap_u64, IntKind.wrap_u64]; omega, by omega⟩⟩⟩
theorem MD.gone {z c V : Int} {T L : Int → Int} {m : Mv} {m' : Dm} {w0 : Int → Int} (g : Geo C z c) (h : MD True C z c T L V true m w0) (o : Lvo C c w0) (hD : DqD C z (Cur C c true) (if true = true then c + 1 else c) w0 m' B) : Ddd C z c m B.w := by
 have e := g.eq
 have er := e.rb; have eC := e.Cb; have ec := g.hc
 obtain ⟨s1, s2, s3, s4⟩ := hD.same g
 rcases h.r with ⟨_, g1, _, g2, g3, _, _, g4, g5⟩ | ⟨q, _⟩
 ·have hlv := hD.lv
  rw [if_pos rfl] at hlv
  unfold lQ at hlv
  refine ⟨hD.sl, fun j j0 j1 => ?_, .inr ⟨g1, g2, g3.1, by rw [s3]; exact g4⟩⟩
  by_cases a : j = c + 1
  ·rw [a, hlv, (g5 trivial).2, IntKind.wrap_u64, IntKind.wrap_u64]; omega
  ·rw [s4 j j0 j1 (by rw [if_pos rfl]; exact a)]
   by_cases b : j = c
   ·rw [b]; exact (g5 trivial).1
   ·exact o j j0 j1 b a
 ·cases q
theorem c_readGone (hN : N.ok) (hC : C.ok) (hA : isA N A σ) {i bb : Int} (hs : A.w (C.slot 0) = nQ) (ok : A.ok bb) (hb : bb < 4611686018427387904) (hl : C.len ≤ A.n) (hb2 : (A.n : Int) ≤ 200000000)
  (hk : ∀ oS A' τ, A'.w = A.w → A'.n = A.n → A'.ok (bb + 2) → isA N A' τ → Keep N.l σ τ → K (.agg #[.int .i64 3, .int .u64 0, .int .i64 0, .int .i64 oS]) τ) :
  s_a9 [N.env C who, .int .u64 65536, .int .i64 i] K σ := by
 have b3 : ∀ (x : Int) (K : Value → Prop), xF (fBuild [(0, 1), (1, 1), (2, 1), (3, 1), (4, 1)] [.int .i64 0, .int .u64 0, .int .i64 0, .int .i64 0, .int .i64 0] [0, 1, 2]) [.int .i64 1, .int .u64 65536, .int .i64 x] K = K (.agg #[.int .i64 1, .int .u64 65536, .int .i64 x, .int .i64 0, .int .i64 0]) := fun _ K => nr rfl
 have gU : ∀ {k : Nat} {x y z w : Int}, gStore 4 [.pointer (some ⟨k, 0, some 0⟩), .agg #[.int .i64 x, .int .u64 y, .int .i64 z, .int .i64 w]] [.int .i64 0, .int .u64 0, .int .i64 0, .int .i64 0] = some [.int .i64 x, .int .u64 y, .int .i64 z, .int .i64 w] := fun {_ _ _ _ _} => rfl
 have hS := hC.S
 simp only [s_a9, w_a9, b3, ruS, ruL, ruE, Nat.reduceAdd, reduceIte, Int.reduceLT, Int.reduceLE, Int.reduceEq, Int.reduceNeg, Int.reduceAdd, Int.reduceSub, Nat.reduceLeDiff, Nat.reduceLT]
 refine c_AccNo hN hC hA (by decide) ok hb hl hb2 (.inr ⟨⟨h65.2.2, by rw [h65.1]; omega⟩, .inl ?_⟩) fun oS A' τ hs hw hn ok' hA' hK => ?_
 ·rw [h65.1, h65.2.1, hs]
  rintro ⟨_, q⟩
  rw [nQ_f.2.2] at q; omega
 ·simp only [gU, sub4, ruS, ruL, ruE, Nat.reduceAdd, reduceIte, Int.reduceLT, Int.reduceLE, Int.reduceEq, Int.reduceNeg, Int.reduceAdd, Int.reduceSub, Nat.reduceLeDiff, Nat.reduceLT]
  exact hk oS A' τ hw hn ok' hA' hK
end Go.Fl
namespace Go.Fl
open Go
set_option linter.unusedVariables false
set_option linter.unusedSimpArgs false
variable {N : Nm} {A B : Ar} {σ : Mem} {K : Value → Mem → Prop} {C : Cf} {who : Int}
theorem law_MoveDrops (σ : Mem) (a0 : Int) (w0 : (Lit.int .i64 a0).wf = true) (a1 : Int) (w1 : (Lit.int .i64 a1).wf = true) :
  s_a1 [.int .i64 a0, .int .i64 a1] (fun v _ => v = .bool true) σ := by
 have hC : (cA 4 8 4 20).ok := cA_ok (by omega) (by omega) (by omega) (by omega)
 have gE : ∀ {k : Nat} {x y z w : Int} {u : Bool}, gStore 5 [.pointer (some ⟨k, 0, some 0⟩), .agg #[.int .i64 x, .int .i64 y, .int .i64 z, .int .i64 w, .bool u]] [.int .i64 0, .int .i64 0, .int .i64 0, .int .i64 0, .bool false] = some [.int .i64 x, .int .i64 y, .int .i64 z, .int .i64 w, .bool u] := fun {_ _ _ _ _ _} => rfl
 have gL3 : ∀ {x y : Int} {u : Bool}, gStore 3 [.pointer (some ⟨14, 0, some 0⟩), .agg #[.int .i64 x, .int .i64 y, .bool u]] [.int .i64 0, .int .i64 0, .bool false] = some [.int .i64 x, .int .i64 y, .bool u] := fun {_ _ _} => rfl
 have s5 : ∀ x y z u w : Value, sub [x, y, z, u, w] 0 5 true = some (.agg #[x, y, z, u, w]) := fun _ _ _ _ _ => rfl
 have g2 : ∀ {k : Nat} {x y : Int}, gStore 2 [.pointer (some ⟨k, 0, some 0⟩), .agg #[.int .i64 x, .int .i64 y]] [.int .i64 0, .int .i64 0] = some [.int .i64 x, .int .i64 y] := fun {_ _ _} => rfl
 have g4 : ∀ {k : Nat} {x y z w : Int}, gStore 4 [.pointer (some ⟨k, 0, some 0⟩), .agg #[.int .i64 x, .int .i64 y, .int .i64 z, .int .i64 w]] [.int .i64 0, .int .i64 0, .int .i64 0, .int .i64 0] = some [.int .i64 x, .int .i64 y, .int .i64 z, .int .i64 w] := fun {_ _ _ _ _} => rfl
 have gU : ∀ {k : Nat} {x y z w : Int}, gStore 4 [.pointer (some ⟨k, 0, some 0⟩), .agg #[.int .i64 x, .int .u64 y, .int .i64 z, .int .i64 w]] [.int .i64 0, .int .u64 0, .int .i64 0, .int .i64 0] = some [.int .i64 x, .int .u64 y, .int .i64 z, .int .i64 w] := fun {_ _ _ _ _} => rfl
 have b4 : ∀ (x y z w : Int) (K : Value → Prop), xF (fBuild [(0, 1), (1, 1), (2, 1), (3, 1)] [.int .i64 0, .int .i64 0, .int .i64 0, .int .i64 0] [0, 1, 2, 3]) [.int .i64 x, .int .i64 y, .int .i64 z, .int .i64 w] K = K (.agg #[.int .i64 x, .int .i64 y, .int .i64 z, .int .i64 w]) := fun _ _ _ _ K => nr rfl
 have f1 : ∀ (x y z w : Value) (K : Value → Prop), xF (fFldV 1 1 false) [.agg #[x, y, z, w]] K = K y := fun _ _ _ _ K => nr rfl
 have p0 : ∀ {k : Nat} {x a b c d : Int}, gStore 1 [.pointer (some ⟨k, 0, some 0⟩), .int .i64 x] [.int .i64 a, .int .i64 b, .int .i64 c, .int .i64 d] = some [.int .i64 x, .int .i64 b, .int .i64 c, .int .i64 d] := fun {_ _ _ _ _ _} => rfl
 have p3 : ∀ {k : Nat} {x a b c d : Int}, gStore 1 [.pointer (some ⟨k, 3, some 0⟩), .int .i64 x] [.int .i64 a, .int .i64 b, .int .i64 c, .int .i64 d] = some [.int .i64 a, .int .i64 b, .int .i64 c, .int .i64 x] := fun {_ _ _ _ _ _} => rfl
 have f3 : ∀ (x y z w : Value) (K : Value → Prop), xF (fFldV 3 1 false) [.agg #[x, y, z, w]] K = K w := fun _ _ _ _ K => nr rfl
 have p0 : ∀ {k : Nat} {x a b c d : Int}, gStore 1 [.pointer (some ⟨k, 0, some 0⟩), .int .i64 x] [.int .i64 a, .int .i64 b, .int .i64 c, .int .i64 d] = some [.int .i64 x, .int .i64 b, .int .i64 c, .int .i64 d] := fun {_ _ _ _ _ _} => rfl
 have p35 : ∀ {k : Nat} {x a b c d : Int} {e : Bool}, gStore 1 [.pointer (some ⟨k, 3, some 0⟩), .int .i64 x] [.int .i64 a, .int .i64 b, .int .i64 c, .int .i64 d, .bool e] = some [.int .i64 a, .int .i64 b, .int .i64 c, .int .i64 x, .bool e] := fun {_ _ _ _ _ _ _} => rfl
 have w11 : IntKind.i64.wrap (1 + 1) = 2 := by decide
 have f0 : ∀ (x y z w : Value) (K : Value → Prop), xF (fFldV 0 1 false) [.agg #[x, y, z, w]] K = K x := fun _ _ _ _ K => nr rfl
 have f05 : ∀ (x y z w u : Value) (K : Value → Prop), xF (fFldV 0 1 false) [.agg #[x, y, z, w, u]] K = K x := fun _ _ _ _ _ K => nr rfl
 simp only [s_a1, w_a1, ruS, ruL, ruE, Nat.reduceAdd, reduceIte, Int.reduceLT, Int.reduceLE, Int.reduceEq, Int.reduceNeg, Int.reduceAdd, Int.reduceSub, Nat.reduceLeDiff, Nat.reduceLT]
 refine c_begun hC argI_nil fun N A0 τ hN hA0 hE hfr hB0 hBL => ?_
 have hCC : (cA 4 8 4 20).C = 4 := rfl
 have hCR : (cA 4 8 4 20).R = 3 := rfl
 have hCG : ¬ (cA 4 8 4 20).G ≤ 1 := by decide
 have hz : 1 ≤ 1 + a0 % 16 ∧ 1 + a0 % 16 ≤ 16 := by omega
 simp only [xExt50, xExt51, xExt52, xExt53, xExt54, gStoreE, gE, c_awake11, w_a1_j1, w_a1_j1b, s5, ruS, ruL, ruE, Nat.reduceAdd, reduceIte, Int.reduceLT, Int.reduceLE, Int.reduceEq, Int.reduceNeg, Int.reduceAdd, Int.reduceSub, Nat.reduceLeDiff, Nat.reduceLT]
 generalize 1 + a0 % 16 = z at *
 generalize hCe : cA 4 8 4 20 = C at *
 have hcl : 0 ≤ classOf z := by unfold classOf; (repeat' split) <;> omega
 have g0 : Geo C z 0 := ⟨hC, hcl, by omega, hCR⟩
 have hln := len_bd hC
 have ge := g0.eq
 have el := ge.l1; have el2 := ge.l2; have eb : C.base 1 = C.base 0 + C.W := ge.nb; have eb0 := ge.b0; have eW := ge.Wb; have es := ge.s; have eT := ge.Tb; have eS := ge.Sb; have eC := ge.Cb; have ez := ge.zb
 have eC2 : sub (N.el C 0) 2 1 false = some (.int .i64 C.C) := rfl
 obtain ⟨T, hTe⟩ : ∃ T, T = A0.w := ⟨_, rfl⟩
 have hT : TbM C z 0 T := by rw [hTe]; exact hB0.tb g0
 have hM : MI True C z 0 T (valW (fun _ => 0) 0) 0 1 false (3 * z + 40 + 0) (Mv.new (C.base 0) 2 z 0 1 false) A0.w := by rw [hTe]; exact hB0.mi (P := True) g0 (fun _ => hBL.cn g0) ⟨Int.le_refl 0, by decide⟩
 have hcln : Cln (Mv.new (C.base 0) 2 z 0 1 false) 0 1 := Mv.new_cln (by decide)
 have hLv : Lvo C 0 A0.w := fun j j0 j1 j2 _ => hBL.lv j (by omega) j1
 have hn0 := hB0.n
 have hok0 := hB0.ok
 refine mob_new hA0 fun p τ1 hp hob x1 => ?_
 simp only [andI127, ruS, ruL, ruE, Nat.reduceAdd, reduceIte, Int.reduceLT, Int.reduceLE, Int.reduceEq, Int.reduceNeg, Int.reduceAdd, Int.reduceSub, Nat.reduceLeDiff, Nat.reduceLT]
 have hn127 : 0 ≤ a1 % 128 ∧ a1 % 128 ≤ 127 := by omega
 generalize a1 % 128 = n at *
 have ext1 := hE.trans x1
 have hA1 := hA0.ext x1
 -- the end
 have last : ∀ m A τ O, Ddd C z 0 m A.w → isA N A τ → MOb N p O m τ → A.n = C.len.toNat → A.ok 3000000 → Ext σ τ → w_a1_j3 (fun v _ => v = .bool true) [.int .u64 65536, .pointer (some ⟨p, 0, none⟩), .bool true] [N.el C 0] τ := by
  intro m A τ O hD hA hO hn hok ext
  obtain ⟨a, ap, ao, ag, asa, asc⟩ := hO.out
  simp only [w_a1_j3, w_a1_j3b, ruS, ruL, ruE, Nat.reduceAdd, reduceIte, Int.reduceLT, Int.reduceLE, Int.reduceEq, Int.reduceNeg, Int.reduceAdd, Int.reduceSub, Nat.reduceLeDiff, Nat.reduceLT]
  refine c_MoveSpot ap ?_
  simp only [ag, asa, asc, ruS, ruL, ruE, Nat.reduceAdd, reduceIte, Int.reduceLT, Int.reduceLE, Int.reduceEq, Int.reduceNeg, Int.reduceAdd, Int.reduceSub, Nat.reduceLeDiff, Nat.reduceLT]
  have gg : gStore 2 [.pointer (some ⟨15, 0, some 0⟩), if m.a.got = true then .agg #[.int .i64 m.a.sa, .int .i64 m.a.sc] else .agg #[.int .i64 0, .int .i64 0]] [.int .i64 0, .int .i64 0] = some [.int .i64 (if m.a.got = true then m.a.sa else 0), .int .i64 (if m.a.got = true then m.a.sc else 0)] := by
   split <;> rfl
  simp only [gg, ruS, ruL, ruE, Nat.reduceAdd, reduceIte, Int.reduceLT, Int.reduceLE, Int.reduceEq, Int.reduceNeg, Int.reduceAdd, Int.reduceSub, Nat.reduceLeDiff, Nat.reduceLT]
  refine c_readGone hN hC hA hD.sl hok (by omega) (by omega) (by omega) fun oS A2 τ2 hw2 hn2 hok2 hA2 k2 => ?_
  have hO2 := hO.arena k2
  obtain ⟨a2, ap2, ao2, ag2, _⟩ := hO2.out
  have hsp : 0 ≤ (if m.a.got = true then m.a.sa else 0) ∧ (if m.a.got = true then m.a.sa else 0) < A2.n := by
   rcases hD.r with ⟨_, q | ⟨q, q1, _⟩⟩ | ⟨_, q, q1, _⟩
   ·rw [if_neg (by rw [q]; decide)]; omega
   ·rw [if_pos q, q1, Int.zero_add]; omega
   ·rw [if_pos q, q1, Int.zero_add]; omega
  simp only [f0, ne_eq, not_true_eq_false, w_a1_j4, w_a1_j4b, ruS, ruL, ruE, Nat.reduceAdd, reduceIte, Int.reduceLT, Int.reduceLE, Int.reduceEq, Int.reduceNeg, Int.reduceAdd, Int.reduceSub, Nat.reduceLeDiff, Nat.reduceLT]
  refine xLoop_i (fun i => [.pointer (some ⟨p, 0, none⟩), .bool m.a.got, .int .u64 0, .int .i64 i]) [N.el C 0, [.int .i64 (if m.a.got = true then m.a.sa else 0), .int .i64 (if m.a.got = true then m.a.sc else 0)]] 4 (fun i τ => 0 ≤ i ∧ i ≤ 4 ∧ τ = τ2) ?_ ⟨Int.le_refl 0, by decide, rfl⟩
  rintro i τ3 ⟨i0, i1, rfl⟩ R hR
  simp only [w_law11_MoveDrops_l21, w_law11_MoveDrops_l21b, eC2, hCC, ruS, ruL, ruE, Nat.reduceAdd, reduceIte, Int.reduceLT, Int.reduceLE, Int.reduceEq, Int.reduceNeg, Int.reduceAdd, Int.reduceSub, Nat.reduceLeDiff, Nat.reduceLT]
  by_cases ci : i < 4
  ·have hci := ge.ch i
   have w0 : A2.w (C.chunk i + 1) = 0 := by rw [hw2]; exact hD.lv i i0 (by omega)
   have u0 : IntKind.u64.wrap (0 + 0) = 0 := by decide
   simp only [ci, c_Chunk hC i0 (show i ≤ 65536 by omega), ruS, ruL, ruE, Nat.reduceAdd, reduceIte, Int.reduceLT, Int.reduceLE, Int.reduceEq, Int.reduceNeg, Int.reduceAdd, Int.reduceSub, Nat.reduceLeDiff, Nat.reduceLT]
   rw [IntWalk.i64_in (C.chunk i + 1) (by omega)]
   simp only [c_PeekA hN hA2 (show 0 ≤ C.chunk i + 1 by omega) (show C.chunk i + 1 < A2.n by omega), w0, u0, ruS, ruL, ruE, Nat.reduceAdd, reduceIte, Int.reduceLT, Int.reduceLE, Int.reduceEq, Int.reduceNeg, Int.reduceAdd, Int.reduceSub, Nat.reduceLeDiff, Nat.reduceLT]
   rw [IntWalk.i64_in (i + 1) (by omega)]
   exact hR _ ci ⟨by omega, by omega, rfl⟩
  ·have hwh := hok2.w (if m.a.got = true then m.a.sa else 0)
   simp only [ci, w_a1_j5, w_a1_j5b, c_PeekA hN hA2 hsp.1 hsp.2, c_wHead hwh.1 hwh.2, f05, ruS, ruL, ruE, Nat.reduceAdd, reduceIte, Int.reduceLT, Int.reduceLE, Int.reduceEq, Int.reduceNeg, Int.reduceAdd, Int.reduceSub, Nat.reduceLeDiff, Nat.reduceLT]
   have hk : ∀ k, 0 ≤ k ∧ k ≤ 3 → hdK (putHead k z 0 1 false) = k := fun k hk => (hd_put hk (by omega) (by decide) (by decide)).1
   refine c_MoveOut ap2 ?_
   rw [ao2]
   rcases hD.r with ⟨q0, q | ⟨q, q1, q2⟩⟩ | ⟨q0, q, q1, q2⟩
   ·simp only [q0, q, ruS, ruL, ruE, Nat.reduceAdd, reduceIte, Int.reduceLT, Int.reduceLE, Int.reduceEq, Int.reduceNeg, Int.reduceAdd, Int.reduceSub, Nat.reduceLeDiff, Nat.reduceLT]
   ·have : hdK (A2.w m.a.sa) = 3 := by rw [q1, hw2, q2, hk 3 (by decide)]
    simp only [q0, q, this, if_true, ruS, ruL, ruE, Nat.reduceAdd, reduceIte, Int.reduceLT, Int.reduceLE, Int.reduceEq, Int.reduceNeg, Int.reduceAdd, Int.reduceSub, Nat.reduceLeDiff, Nat.reduceLT]
   ·have : hdK (A2.w m.a.sa) = 2 := by rw [q1, hw2, q2, hk 2 (by decide)]
    simp only [q0, q, this, if_true, ruS, ruL, ruE, Nat.reduceAdd, reduceIte, Int.reduceLT, Int.reduceLE, Int.reduceEq, Int.reduceNeg, Int.reduceAdd, Int.reduceSub, Nat.reduceLeDiff, Nat.reduceLT]
    refine c_MoveOut ap2 ?_
    rw [ao2]
    simp only [q0, ruS, ruL, ruE, Nat.reduceAdd, reduceIte, Int.reduceLT, Int.reduceLE, Int.reduceEq, Int.reduceNeg, Int.reduceAdd, Int.reduceSub, Nat.reduceLeDiff, Nat.reduceLT]
 -- behind that it was let go
 have part3 : ∀ (md : Bool) m A τ O, (md = true ∧ Ddd C z 0 m A.w ∨ md = false ∧ Ddi C z 0 T 80 m A.w) → isA N A τ → MOb N p O m τ → (∀ j ∈ O, σ.get j = none) → A.n = C.len.toNat → A.ok 2500000 → Ext σ τ →
   xLoop (w_law11_MoveDrops_l13 (fun v _ => v = .bool true) (w_a1_j3 fun v _ => v = .bool true)) [.int .u64 65536, .pointer (some ⟨p, 0, none⟩), .bool md, .int .i64 0] [N.el C 0] τ := by
  intro md m A τ O hmd hA hO hOn hn hok ext
  refine xLoop_r (fun x ts ls τ => ∃ k q md m A O, x = (200 - k).toNat ∧ ts = [.int .u64 65536, .pointer (some ⟨p, 0, none⟩), .bool md, .int .i64 k] ∧ ls = [N.el C 0] ∧ 0 ≤ k ∧ (k + q ≤ 80 ∧ 0 ≤ q ∨ md = true ∧ k ≤ 100) ∧ isA N A τ ∧ (md = true ∧ Ddd C z 0 m A.w ∨ md = false ∧ Ddi C z 0 T q m A.w) ∧ MOb N p O m τ ∧ (∀ j ∈ O, σ.get j = none) ∧ A.n = C.len.toNat ∧ A.ok (2500000 + k) ∧ Ext σ τ) ?_ (n := 200)
   ⟨0, 80, md, m, A, O, by decide, rfl, rfl, Int.le_refl 0, .inl ⟨by decide, by decide⟩, hA, hmd, hO, hOn, hn, by simpa using hok, ext⟩
  rintro x ts ls τ2 ⟨k, q, md, m, A2, O, rfl, rfl, rfl, k0, kq, hA2, hmd, hO2, hOn, hn2, hok2, ext2⟩ R hR
  have k200 : k < 200 := by omega
  simp only [w_law11_MoveDrops_l13, w_law11_MoveDrops_l13b, k200, ruS, ruL, ruE, Nat.reduceAdd, reduceIte, Int.reduceLT, Int.reduceLE, Int.reduceEq, Int.reduceNeg, Int.reduceAdd, Int.reduceSub, Nat.reduceLeDiff, Nat.reduceLT]
  rcases hmd with ⟨rfl, hD⟩ | ⟨rfl, hI⟩
  ·simp only [ruS, ruL, ruE, Nat.reduceAdd, reduceIte, Int.reduceLT, Int.reduceLE, Int.reduceEq, Int.reduceNeg, Int.reduceAdd, Int.reduceSub, Nat.reduceLeDiff, Nat.reduceLT]
   exact last m A2 τ2 O hD hA2 hO2 hn2 (ok_mono hok2 (by omega)) ext2
  ·have kq' : k + q ≤ 80 ∧ 0 ≤ q := by
    rcases kq with h | ⟨h, _⟩
    ·exact h
    ·cases h
   obtain ⟨hq, hn3, hok3, hst⟩ := hI.step (who := 0) g0 hT hok2 (by omega)
   have hfit := hI.mpc.fit g0 hT hI.wb hI.cb (by have := hI.nb; omega) (by omega) (by omega)
   simp only [w_a1_j6, w_a1_j6b, ruS, ruL, ruE, Nat.reduceAdd, reduceIte, Int.reduceLT, Int.reduceLE, Int.reduceEq, Int.reduceNeg, Int.reduceAdd, Int.reduceSub, Nat.reduceLeDiff, Nat.reduceLT]
   refine c_Mv_Step hN hC hA2 hO2 hok2.w (by omega) hfit fun O' τ3 hO' hA3 hO3 hK3 => ?_
   have hOn' : ∀ j ∈ O', σ.get j = none := fun j hj => by
    rcases hO' j hj with h | h
    ·exact hOn j h
    ·exact ext2.none h
   have ext3 : Ext σ τ3 := ext2.keep' hK3 fun j hj => by
    rcases List.mem_append.1 hj with h | h
    ·exact hOn j h
    ·exact hfr.all j h
   generalize m.step C 0 A2 = r at *
   obtain ⟨d, m', A3⟩ := r
   dsimp only at *
   rw [IntWalk.i64_in (k + 1) (by omega)]
   refine hR (200 - (k + 1)).toNat _ _ _ (by omega) ⟨k + 1, q - 1, d, m', A3, O', rfl, rfl, rfl, by omega, .inl ⟨by omega, by omega⟩, hA3, ?_, hO3, hOn', hn3.trans hn2, by rw [show 2500000 + (k + 1) = 2500000 + k + 1 by omega]; exact hok3, ext3⟩
   rcases hst with ⟨h1, h2⟩ | ⟨h1, h2⟩
   ·exact .inr ⟨h1, h2⟩
   ·exact .inl ⟨h1, h2⟩
 -- it is let go
 have part2 : ∀ (md : Bool) m A τ O, ((∃ V, md = true ∧ MD True C z 0 T (valW (fun _ => 0) 0) V true m A.w) ∨ ∃ V st loc q, md = false ∧ MI True C z 0 T (valW (fun _ => 0) 0) V st loc q m A.w ∧ Cln m V st) → Lvo C 0 A.w → isA N A τ → MOb N p O m τ → (∀ j ∈ O, σ.get j = none) → A.n = C.len.toNat → A.ok 2400000 → Ext σ τ →
   w_a1_j2 (fun v _ => v = .bool true) [.int .u64 65536, .pointer (some ⟨p, 0, none⟩), .bool md] [N.el C 0] τ := by
  intro md m A τ O hmd hlv hA hO hOn hn hok ext
  simp only [w_a1_j2, w_a1_j2b, ruS, ruL, ruE, Nat.reduceAdd, reduceIte, Int.reduceLT, Int.reduceLE, Int.reduceEq, Int.reduceNeg, Int.reduceAdd, Int.reduceSub, Nat.reduceLeDiff, Nat.reduceLT]
  have go : ∀ (V st : Int) (loc : Bool), Smv C z 0 (valW (fun _ => 0) 0) V st loc A.w → (∀ m' A', DqD C z (Cur C 0 loc) (if loc = true then 0 + 1 else 0) A.w m' A' → (md = true ∧ Ddd C z 0 m A'.w ∨ md = false ∧ Ddi C z 0 T 80 m A'.w)) →
    s_ax [N.env C 0, .int .u64 65536, .bool false] (fun v53 σ => xF (fFldV 0 1 false) [v53] fun v54 => xF (fBin .neq .no) [v54, .int .i64 0] fun v55 => xIf v55 (xF fMove [.bool false] fun v4 => v4 = .bool true)
     (xF fMove [.int .i64 0] fun v14 => xLoop (w_law11_MoveDrops_l13 (fun v _ => v = .bool true) (w_a1_j3 fun v _ => v = .bool true)) [.int .u64 65536, .pointer (some ⟨p, 0, none⟩), .bool md, v14] [N.el C 0] σ)) τ := by
   intro V st loc hsm hgo
   refine c_DropQ hN hC hA (DqO.make g0 hsm hCG) hok (by omega) (by omega) fun m' A' τ' hD hok' hn' hA' hK => ?_
   simp only [f0, ne_eq, not_true_eq_false, ruS, ruL, ruE, Nat.reduceAdd, reduceIte, Int.reduceLT, Int.reduceLE, Int.reduceEq, Int.reduceNeg, Int.reduceAdd, Int.reduceSub, Nat.reduceLeDiff, Nat.reduceLT]
   exact part3 md m A' τ' O (hgo m' A' hD) hA' (hO.arena hK) hOn (hn'.trans hn) (ok_mono hok' (by decide)) (ext.keep' hK hfr.all)
  rcases hmd with ⟨V, rfl, h⟩ | ⟨V, st, loc, q, rfl, h, hc⟩
  ·have := go V 1 true h.sm fun m' A' hD => .inl ⟨rfl, h.gone g0 hlv hD⟩
   simpa only [ruS, ruL, ruE, Nat.reduceAdd, reduceIte, Int.reduceLT, Int.reduceLE, Int.reduceEq, Int.reduceNeg, Int.reduceAdd, Int.reduceSub, Nat.reduceLeDiff, Nat.reduceLT] using this
  ·have := go V st loc h.sm fun m' A' hD => .inr ⟨rfl, h.gone g0 hc hlv hD⟩
   simpa only [ruS, ruL, ruE, Nat.reduceAdd, reduceIte, Int.reduceLT, Int.reduceLE, Int.reduceEq, Int.reduceNeg, Int.reduceAdd, Int.reduceSub, Nat.reduceLeDiff, Nat.reduceLT] using this
 refine xLoop_r (fun x ts ls τ => ∃ k md m A O, x = (200 - k).toNat ∧ ts = [.int .u64 65536, .pointer (some ⟨p, 0, none⟩), .bool md, .int .i64 n, .int .i64 k] ∧ ls = [N.el C 0] ∧ (0 ≤ k ∧ k ≤ n) ∧ isA N A τ ∧ ((∃ V, md = true ∧ MD True C z 0 T (valW (fun _ => 0) 0) V true m A.w) ∨ ∃ V st loc q, md = false ∧ MI True C z 0 T (valW (fun _ => 0) 0) V st loc q m A.w ∧ Cln m V st) ∧ Lvo C 0 A.w ∧ MOb N p O m τ ∧ (∀ j ∈ O, σ.get j = none) ∧ A.n = C.len.toNat ∧ A.ok (2000000 + k) ∧ Ext σ τ) ?_ (n := 200)
  ⟨0, false, _, A0, [p], by decide, rfl, rfl, ⟨Int.le_refl 0, by omega⟩, hA1, (.inr ⟨0, 1, false, _, rfl, hM, hcln⟩), hLv, hob, fun j hj => by rw [List.mem_singleton.1 hj]; exact hE.none hp, hn0, by simpa using hok0, ext1⟩
 rintro x ts ls τ2 ⟨k, md, m, A2, O, rfl, rfl, rfl, ⟨k0, kn⟩, hA2, hmd, hlv2, hO2, hOn, hn2, hok2, ext2⟩ R hR
 simp only [w_law11_MoveDrops_l7, w_law11_MoveDrops_l7b, ruS, ruL, ruE, Nat.reduceAdd, reduceIte, Int.reduceLT, Int.reduceLE, Int.reduceEq, Int.reduceNeg, Int.reduceAdd, Int.reduceSub, Nat.reduceLeDiff, Nat.reduceLT]
 have fin : w_a1_j2 (fun v _ => v = .bool true) [.int .u64 65536, .pointer (some ⟨p, 0, none⟩), .bool md] [N.el C 0] τ2 := part2 md m A2 τ2 O hmd hlv2 hA2 hO2 hOn hn2 (ok_mono hok2 (by omega)) ext2
 by_cases ck : k < n
 ·simp only [ck, ruS, ruL, ruE, Nat.reduceAdd, reduceIte, Int.reduceLT, Int.reduceLE, Int.reduceEq, Int.reduceNeg, Int.reduceAdd, Int.reduceSub, Nat.reduceLeDiff, Nat.reduceLT]
  obtain ⟨V, rfl, h⟩ | ⟨V, st, loc, q, rfl, hmi, hc⟩ := hmd
  ·simp only [ruS, ruL, ruE, Nat.reduceAdd, reduceIte, Int.reduceLT, Int.reduceLE, Int.reduceEq, Int.reduceNeg, Int.reduceAdd, Int.reduceSub, Nat.reduceLeDiff, Nat.reduceLT]; exact fin
  ·obtain ⟨t, hs⟩ := hmi.step (who := 0) g0 hT hok2 (by omega)
   have hfit := hmi.fit g0 hT (by omega) (by omega)
   have hlv3 := hlv2.step (who := 0) g0 hmi hT
   simp only [w_a1_j7, w_a1_j7b, ruS, ruL, ruE, Nat.reduceAdd, reduceIte, Int.reduceLT, Int.reduceLE, Int.reduceEq, Int.reduceNeg, Int.reduceAdd, Int.reduceSub, Nat.reduceLeDiff, Nat.reduceLT]
   refine c_Mv_Step hN hC hA2 hO2 hok2.w (by omega) hfit fun O' τ3 hO' hA3 hO3 hK3 => ?_
   have hOn' : ∀ j ∈ O', σ.get j = none := fun j hj => by
    rcases hO' j hj with h | h
    ·exact hOn j h
    ·exact ext2.none h
   have ext3 : Ext σ τ3 := ext2.keep' hK3 fun j hj => by
    rcases List.mem_append.1 hj with h | h
    ·exact hOn j h
    ·exact hfr.all j h
   have hok3 := t.ok _ hok2 (by omega)
   have hn3 := t.n.trans hn2
   generalize m.step C 0 A2 = r at *
   obtain ⟨d, m', A3⟩ := r
   dsimp only at *
   rw [IntWalk.i64_in (k + 1) (by omega)]
   refine hR (200 - (k + 1)).toNat _ _ _ (by omega) ⟨k + 1, d, m', A3, O', rfl, rfl, rfl, ⟨by omega, by omega⟩, hA3, ?_, hlv3, hO3, hOn', hn3, by rw [show 2000000 + (k + 1) = 2000000 + k + 1 by omega]; exact hok3, ext3⟩
   rcases hs with ⟨rfl, V', st', loc', h1, h2, h3⟩ | ⟨rfl, h1, h2⟩
   ·exact .inr ⟨V', st', loc', _, rfl, h1, h3 hc⟩
   ·refine .inl ⟨V, rfl, ?_⟩
    have ho := h2 hc
    rcases h1.r with ⟨e, _⟩ | ⟨_, e, _⟩
    ·rw [e] at h1; exact h1
    ·omega
 ·simp only [ck, ruS, ruL, ruE, Nat.reduceAdd, reduceIte, Int.reduceLT, Int.reduceLE, Int.reduceEq, Int.reduceNeg, Int.reduceAdd, Int.reduceSub, Nat.reduceLeDiff, Nat.reduceLT]; exact fin
end Go.Fl
