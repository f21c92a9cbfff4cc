/- What the claim leans on, part 5: own readings of the program's functions, what they come to, laws of them. No condition. -/
import Derived.Test.YtbmcbcoaeclfbaaZActPins4
namespace Go.Fl
open Go
set_option linter.unusedVariables false
set_option linter.unusedSimpArgs false
variable {N : Nm} {A B : Ar} {σ : Mem} {K : Value → Mem → Prop} {C : Cf} {who : Int}
theorem c_Ac2 (hN : N.ok) (hC : C.ok) (hA : isA N A σ) {p : Nat} {a : Ac} (hp : σ.get p = some ⟨a.l, true⟩) (hd : p ∉ N.l) (hw : ∀ i, 0 ≤ A.w i ∧ A.w i < 18446744073709551616) (hf : a.fit C A) (h : a.pc = 2)
  (k0 : (a.step C who A).2.1.pc ≠ 4 → ∀ τ, isA N (a.step C who A).2.2 τ → τ.get p = some ⟨(a.step C who A).2.1.l, true⟩ → Keep (p :: N.l) σ τ → K (.bool (a.step C who A).1) τ)
  (k1 : (a.step C who A).2.1.pc = 4 → ∀ q τ, σ.get q = none → q ≠ p → isA N (a.step C who A).2.2 τ → τ.get p = some ⟨({ (a.step C who A).2.1 with help := some q } : Ac).l, true⟩ → τ.get q = some ⟨(Hl.new a.hs a.w a.size).l, true⟩ → Keep (p :: N.l) σ τ → K (.bool (a.step C who A).1) τ) :
  s_ab [.pointer (some ⟨p, 0, none⟩), N.env C who] K σ := by
 have hbd := hf.bd
 have h2 := hf.a2 (.inl h)
 have h3 := hf.w
 have hwa := hw a.at'
 rw [hA.obj hp]
 unfold Ac.step at k0 k1
 rw [if_neg (by omega), if_neg (by omega), if_pos h] at k0 k1
 simp only [s_ab, w_ab, ruS, ruL, ruE, Nat.reduceAdd, reduceIte, Int.reduceLT, Int.reduceLE, Int.reduceEq, Int.reduceNeg, Int.reduceAdd, Int.reduceSub, Nat.reduceLeDiff, Nat.reduceLT]
 rw [ldAx hd (show sub _ 8 1 false = some (.int .i64 a.pc) from rfl)]
 simp only [h, ruS, ruL, ruE, Nat.reduceAdd, reduceIte, Int.reduceLT, Int.reduceLE, Int.reduceEq, Int.reduceNeg, Int.reduceAdd, Int.reduceSub, Nat.reduceLeDiff, Nat.reduceLT]
 rw [c_Aat hd h3 (by omega), c_Load hN h2.1 h2.2, stAx { a with cell := A.w a.at' } hd rfl rfl (by decide) rfl, c_Now, c_Anext (a := { a with cell := A.w a.at' }) hd h3 hwa]
 rw [stAx { a with cell := A.w a.at', rd := ((A.by who).load a.at').s } hd rfl rfl (by decide) rfl]
 rw [stAx { a with cell := A.w a.at', rd := ((A.by who).load a.at').s, pc := ({ a with cell := A.w a.at' } : Ac).nxt } hd rfl rfl (by decide) rfl]
 rw [ldAx (a := { a with cell := A.w a.at', rd := ((A.by who).load a.at').s, pc := ({ a with cell := A.w a.at' } : Ac).nxt }) hd (show sub _ 8 1 false = some (.int .i64 ({ a with cell := A.w a.at' } : Ac).nxt) from rfl)]
 by_cases e : ({ a with cell := A.w a.at' } : Ac).nxt = 4
 ·replace k1 := k1 e
  simp only [e, ruS, ruL, ruE, Nat.reduceAdd, reduceIte, Int.reduceLT, Int.reduceLE, Int.reduceEq, Int.reduceNeg, Int.reduceAdd, Int.reduceSub, Nat.reduceLeDiff, Nat.reduceLT]
  rw [e] at k1
  rw [ldAx (a := { a with cell := A.w a.at', rd := ((A.by who).load a.at').s, pc := 4 }) hd (show sub _ 6 1 false = some (.int .i64 a.hs) from rfl), ldAx (a := { a with cell := A.w a.at', rd := ((A.by who).load a.at').s, pc := 4 }) hd (show sub _ 9 1 false = some (.int .u64 a.w) from rfl),
   ldAx (a := { a with cell := A.w a.at', rd := ((A.by who).load a.at').s, pc := 4 }) hd (show sub _ 13 1 false = some (.int .i64 a.size) from rfl)]
  refine behind (K := fun _ σ => s_az [.int .i64 a.hs, .int .u64 a.w, .int .i64 a.size] _ σ) (v := undef) hN hd fun υ u1 u2 u3 => ?_
  refine c_NewHelp fun id ω hid gid x => ?_
  have hx1 := u1.ext x
  have hx2 := x _ _ u2
  have ip : id ≠ p := by rintro rfl; rw [u2] at hid; cases hid
  have inn := u1.new hid
  have ids : σ.get id = none := by
   cases e : σ.get id with
   | none => rfl
   | some b => rw [u3 id b e (by simp only [List.mem_cons, not_or]; exact ⟨ip, inn⟩)] at hid; cases hid
  rw [hx1.obj hx2, stAx { a with cell := A.w a.at', rd := ((A.by who).load a.at').s, pc := 4, help := some id } hd rfl rfl (by decide) rfl]
  simp only [w_ab_j1, w_ab_j1b, ruS, ruL, ruE, Nat.reduceAdd, reduceIte, Int.reduceLT, Int.reduceLE, Int.reduceEq, Int.reduceNeg, Int.reduceAdd, Int.reduceSub, Nat.reduceLeDiff, Nat.reduceLT]
  refine behind hN hd fun ρ r1 r2 r3 => k1 id ρ ids ip r1 r2 ?_ ((u3.trans x.keep).trans r3)
  exact r3 id _ gid (by simp only [List.mem_cons, not_or]; exact ⟨ip, inn⟩)
 ·replace k0 := k0 e
  simp only [e, w_ab_j1, w_ab_j1b, ruS, ruL, ruE, Nat.reduceAdd, reduceIte, Int.reduceLT, Int.reduceLE, Int.reduceEq, Int.reduceNeg, Int.reduceAdd, Int.reduceSub, Nat.reduceLeDiff, Nat.reduceLT]
  exact behind hN hd k0
theorem c_Ac3 (hN : N.ok) (hC : C.ok) (hA : isA N A σ) {p : Nat} {a : Ac} (hp : σ.get p = some ⟨a.l, true⟩) (hd : p ∉ N.l) (hn : C.len ≤ A.n) (hf : a.fit C A) (h : a.pc = 3)
  (hk : ∀ τ, isA N (a.step C who A).2.2 τ → τ.get p = some ⟨(a.step C who A).2.1.l, true⟩ → Keep (p :: N.l) σ τ → K (.bool (a.step C who A).1) τ) :
  s_ab [.pointer (some ⟨p, 0, none⟩), N.env C who] K σ := by
 have hT := hC.T; have hS := hC.S; have hC3 := hC.C; have hl := len_bd hC
 have hch : C.chunk C.C = 6 + C.T + 2 * C.S + 3 * C.C := rfl
 have h3 := hf.w
 have h2 := hf.hs
 have hV := slV_bd a.w
 have hsb : 0 ≤ C.slot a.hs ∧ C.slot a.hs < A.n := by unfold Cf.slot; omega
 have g4 : ∀ (k : Nat) (x y z w x' y' z' w' : Int), gStore 4 [.pointer (some ⟨k, 0, some 0⟩), .agg #[.int .i64 x, .int .i64 y, .int .i64 z, .int .i64 w]] [.int .i64 x', .int .i64 y', .int .i64 z', .int .i64 w'] = some [.int .i64 x, .int .i64 y, .int .i64 z, .int .i64 w] := fun _ _ _ _ _ _ _ _ _ => rfl
 have g0 : ∀ (k : Nat) (v x' y' z' w' : Int), gStore 1 [.pointer (some ⟨k, 0, some 0⟩), .int .i64 v] [.int .i64 x', .int .i64 y', .int .i64 z', .int .i64 w'] = some [.int .i64 v, .int .i64 y', .int .i64 z', .int .i64 w'] := fun _ _ _ _ _ _ => rfl
 have g3 : ∀ (k : Nat) (v x' y' z' w' : Int), gStore 1 [.pointer (some ⟨k, 3, some 0⟩), .int .i64 v] [.int .i64 x', .int .i64 y', .int .i64 z', .int .i64 w'] = some [.int .i64 x', .int .i64 y', .int .i64 z', .int .i64 v] := fun _ _ _ _ _ _ => rfl
 rw [hA.obj hp]
 unfold Ac.step at hk
 rw [if_neg (by omega), if_neg (by omega), if_neg (by omega), if_pos h] at hk
 simp only [s_ab, w_ab, ruS, ruL, ruE, Nat.reduceAdd, reduceIte, Int.reduceLT, Int.reduceLE, Int.reduceEq, Int.reduceNeg, Int.reduceAdd, Int.reduceSub, Nat.reduceLeDiff, Nat.reduceLT]
 rw [ldAx hd (show sub _ 8 1 false = some (.int .i64 a.pc) from rfl)]
 simp only [h, ruS, ruL, ruE, Nat.reduceAdd, reduceIte, Int.reduceLT, Int.reduceLE, Int.reduceEq, Int.reduceNeg, Int.reduceAdd, Int.reduceSub, Nat.reduceLeDiff, Nat.reduceLT]
 rw [ldAx hd (show sub _ 9 1 false = some (.int .u64 a.w) from rfl), c_wSlot h3.1 h3.2]
 simp only [g4, g0, g3, ruS, ruL, ruE, Nat.reduceAdd, reduceIte, Int.reduceLT, Int.reduceLE, Int.reduceEq, Int.reduceNeg, Int.reduceAdd, Int.reduceSub, Nat.reduceLeDiff, Nat.reduceLT]
 rw [IntWalk.i64_in (slV a.w + 1) (by omega)]
 rw [ldAx hd (show sub _ 6 1 false = some (.int .i64 a.hs) from rfl), c_Slot hC h2.1 (by omega), ldAx hd (show sub _ 9 1 false = some (.int .u64 a.w) from rfl)]
 simp only [sub4, ruS, ruL, ruE, Nat.reduceAdd, reduceIte, Int.reduceLT, Int.reduceLE, Int.reduceEq, Int.reduceNeg, Int.reduceAdd, Int.reduceSub, Nat.reduceLeDiff, Nat.reduceLT]
 rw [c_PutSlot, c_Cas hN hsb.1 hsb.2, stAx { a with pc := 0 } hd rfl rfl (by decide) rfl]
 simp only [w_ab_j1, w_ab_j1b, ruS, ruL, ruE, Nat.reduceAdd, reduceIte, Int.reduceLT, Int.reduceLE, Int.reduceEq, Int.reduceNeg, Int.reduceAdd, Int.reduceSub, Nat.reduceLeDiff, Nat.reduceLT]
 exact behind hN hd hk
theorem c_Ac4 (hN : N.ok) (hC : C.ok) (hA : isA N A σ) {p q : Nat} {a : Ac} {t : Hl} (hp : σ.get p = some ⟨a.l, true⟩) (hd : p ∉ N.l) (hq : σ.get q = some ⟨[] ++ t.l ++ [], true⟩) (hqd : q ∉ N.l) (hqp : q ≠ p) (hw : ∀ i, 0 ≤ A.w i ∧ A.w i < 18446744073709551616) (hn : C.len ≤ A.n)
  (h : a.pc = 4) (ha : a.help = some q) (hf : t.fit C)
  (k0 : (t.step C who A).1 = false → ∀ τ, isA N (t.step C who A).2.2 τ → τ.get p = some ⟨a.l, true⟩ → τ.get q = some ⟨[] ++ (t.step C who A).2.1.l ++ [], true⟩ → Keep (q :: p :: N.l) σ τ → K (.bool false) τ)
  (k2 : (t.step C who A).1 = true → ∀ τ, isA N (t.step C who A).2.2 τ → τ.get p = some ⟨({ a with pc := 0 } : Ac).l, true⟩ → Keep (q :: p :: N.l) σ τ → K (.bool false) τ) :
  s_ab [.pointer (some ⟨p, 0, none⟩), N.env C who] K σ := by
 have hpL : ∀ i ∈ p :: N.l, i ∈ q :: p :: N.l := fun i hi => List.mem_cons_of_mem _ hi
 have hqL : ∀ i ∈ q :: N.l, i ∈ q :: p :: N.l := fun i hi => by rcases List.mem_cons.1 hi with rfl | hi <;> simp [*]
 rw [hA.obj hp]
 simp only [s_ab, w_ab, ruS, ruL, ruE, Nat.reduceAdd, reduceIte, Int.reduceLT, Int.reduceLE, Int.reduceEq, Int.reduceNeg, Int.reduceAdd, Int.reduceSub, Nat.reduceLeDiff, Nat.reduceLT]
 rw [ldAx hd (show sub _ 8 1 false = some (.int .i64 a.pc) from rfl)]
 simp only [h, ruS, ruL, ruE, Nat.reduceAdd, reduceIte, Int.reduceLT, Int.reduceLE, Int.reduceEq, Int.reduceNeg, Int.reduceAdd, Int.reduceSub, Nat.reduceLeDiff, Nat.reduceLT]
 rw [ldAx hd (show sub _ 14 1 false = some (obP a.help) from rfl), ha, obP_s, ← hA.obj hp]
 refine c_Help_Step hN hC hA (t := t) (pre := []) (post := []) hq hqd hw hn hf fun τ hA' hq' hK => ?_
 have hp' : τ.get p = some ⟨a.l, true⟩ := hK.get hp (by simp only [List.mem_cons, not_or]; exact ⟨fun e => hqp e.symm, hd⟩)
 have hK2 := hK.mono hqL
 generalize t.step C who A = r at *
 obtain ⟨d, t', A'⟩ := r
 dsimp only at *
 cases d with
 | false => simp only [w_ab_j1, w_ab_j1b, ruS, ruL, ruE, Nat.reduceAdd, reduceIte, Int.reduceLT, Int.reduceLE, Int.reduceEq, Int.reduceNeg, Int.reduceAdd, Int.reduceSub, Nat.reduceLeDiff, Nat.reduceLT]; exact k0 rfl τ hA' hp' hq' hK2
 | true =>
  simp only [ruS, ruL, ruE, Nat.reduceAdd, reduceIte, Int.reduceLT, Int.reduceLE, Int.reduceEq, Int.reduceNeg, Int.reduceAdd, Int.reduceSub, Nat.reduceLeDiff, Nat.reduceLT]
  rw [hA'.obj hp', stAx { a with pc := 0 } hd rfl rfl (by decide) rfl]
  simp only [w_ab_j1, w_ab_j1b, ruS, ruL, ruE, Nat.reduceAdd, reduceIte, Int.reduceLT, Int.reduceLE, Int.reduceEq, Int.reduceNeg, Int.reduceAdd, Int.reduceSub, Nat.reduceLeDiff, Nat.reduceLT]
  exact behind hN hd fun υ u1 u2 u3 => k2 rfl υ u1 u2 (hK2.trans (u3.mono hpL))
theorem c_Ac5 (hN : N.ok) (hC : C.ok) (hA : isA N A σ) {p : Nat} {a : Ac} (hp : σ.get p = some ⟨a.l, true⟩) (hd : p ∉ N.l) (hf : a.fit C A) (h : a.pc = 5)
  (hk : ∀ τ, isA N (a.step C who A).2.2 τ → τ.get p = some ⟨(a.step C who A).2.1.l, true⟩ → Keep (p :: N.l) σ τ → K (.bool (a.step C who A).1) τ) :
  s_ab [.pointer (some ⟨p, 0, none⟩), N.env C who] K σ := by
 have hbd := hf.bd
 have h2 := hf.a2 (.inr h)
 have h3 := hf.w
 have h4 := hf.cell
 have b3 : ∀ (x : Int) (K : Value → Prop), xF (fBuild [(0, 1), (1, 1), (2, 1)] [.int .i64 0, .bool false, .int .i64 0] [0]) [.int .i64 x] K = K (.agg #[.int .i64 x, .bool false, .int .i64 0]) := fun _ K => nr rfl
 rw [hA.obj hp]
 unfold Ac.step at hk
 rw [if_neg (by omega), if_neg (by omega), if_neg (by omega), if_neg (by omega), if_pos h] at hk
 simp only [s_ab, w_ab, ruS, ruL, ruE, Nat.reduceAdd, reduceIte, Int.reduceLT, Int.reduceLE, Int.reduceEq, Int.reduceNeg, Int.reduceAdd, Int.reduceSub, Nat.reduceLeDiff, Nat.reduceLT]
 rw [ldAx hd (show sub _ 8 1 false = some (.int .i64 a.pc) from rfl)]
 simp only [h, ruS, ruL, ruE, Nat.reduceAdd, reduceIte, Int.reduceLT, Int.reduceLE, Int.reduceEq, Int.reduceNeg, Int.reduceAdd, Int.reduceSub, Nat.reduceLeDiff, Nat.reduceLT]
 rw [stAx { a with pc := 0 } hd rfl rfl (by decide) rfl, c_Aat (a := { a with pc := 0 }) hd h3 (by show 0 ≤ a.at' ∧ a.at' < _; omega)]
 rw [ldAx (a := { a with pc := 0 }) hd (show sub _ 10 1 false = some (.int .u64 a.cell) from rfl), ldAx (a := { a with pc := 0 }) hd (show sub _ 3 1 false = some (.int .i64 a.v) from rfl), b3, c_PutCell]
 rw [show ({ a with pc := 0 } : Ac).at' = a.at' from rfl, c_Cas hN h2.1 h2.2]
 by_cases e : A.w a.at' = a.cell
 ·rw [if_pos e] at hk
  simp only [e, ruS, ruL, ruE, Nat.reduceAdd, reduceIte, Int.reduceLT, Int.reduceLE, Int.reduceEq, Int.reduceNeg, Int.reduceAdd, Int.reduceSub, Nat.reduceLeDiff, Nat.reduceLT]
  rw [ldAx (a := { a with pc := 0 }) hd (show sub _ 10 1 false = some (.int .u64 a.cell) from rfl), c_wCell h4.1 h4.2]
  simp only [xFldV, List.toList_toArray, ruS, ruL, ruE, Nat.reduceAdd, reduceIte, Int.reduceLT, Int.reduceLE, Int.reduceEq, Int.reduceNeg, Int.reduceAdd, Int.reduceSub, Nat.reduceLeDiff, Nat.reduceLT]
  rw [c_Now, c_Aend hd]
  exact behind hN hd hk
 ·rw [if_neg e] at hk
  simp only [e, w_ab_j1, w_ab_j1b, ruS, ruL, ruE, Nat.reduceAdd, reduceIte, Int.reduceLT, Int.reduceLE, Int.reduceEq, Int.reduceNeg, Int.reduceAdd, Int.reduceSub, Nat.reduceLeDiff, Nat.reduceLT]
  exact behind hN hd hk
theorem c_Ac6 (hN : N.ok) (hC : C.ok) (hA : isA N A σ) {p : Nat} {a : Ac} (hp : σ.get p = some ⟨a.l, true⟩) (hd : p ∉ N.l) (hw : ∀ i, 0 ≤ A.w i ∧ A.w i < 18446744073709551616) (hn : C.len ≤ A.n) (hf : a.fit C A) (h : a.pc = 6)
  (hk : ∀ τ, isA N (a.step C who A).2.2 τ → τ.get p = some ⟨(a.step C who A).2.1.l, true⟩ → Keep (p :: N.l) σ τ → K (.bool (a.step C who A).1) τ) :
  s_ab [.pointer (some ⟨p, 0, none⟩), N.env C who] K σ := by
 have hT := hC.T; have hS := hC.S; have hC3 := hC.C; have hl := len_bd hC
 have hch : C.chunk C.C = 6 + C.T + 2 * C.S + 3 * C.C := rfl
 have h2 := hf.hs
 have h3 := hf.w
 have h4 := hf.cell
 have hsb : 0 ≤ C.slot a.hs ∧ C.slot a.hs < A.n := by unfold Cf.slot; omega
 have hwa := hw (C.slot a.hs)
 have g4 : ∀ (k : Nat) (x y z w x' y' z' w' : Int), gStore 4 [.pointer (some ⟨k, 0, some 0⟩), .agg #[.int .i64 x, .int .i64 y, .int .i64 z, .int .i64 w]] [.int .i64 x', .int .i64 y', .int .i64 z', .int .i64 w'] = some [.int .i64 x, .int .i64 y, .int .i64 z, .int .i64 w] := fun _ _ _ _ _ _ _ _ _ => rfl
 rw [hA.obj hp]
 unfold Ac.step at hk
 rw [if_neg (by omega), if_neg (by omega), if_neg (by omega), if_neg (by omega), if_neg (by omega)] at hk
 simp only [s_ab, w_ab, ruS, ruL, ruE, Nat.reduceAdd, reduceIte, Int.reduceLT, Int.reduceLE, Int.reduceEq, Int.reduceNeg, Int.reduceAdd, Int.reduceSub, Nat.reduceLeDiff, Nat.reduceLT]
 rw [ldAx hd (show sub _ 8 1 false = some (.int .i64 a.pc) from rfl)]
 simp only [h, s_ad, w_ad, ruS, ruL, ruE, Nat.reduceAdd, reduceIte, Int.reduceLT, Int.reduceLE, Int.reduceEq, Int.reduceNeg, Int.reduceAdd, Int.reduceSub, Nat.reduceLeDiff, Nat.reduceLT]
 rw [ldAx hd (show sub _ 6 1 false = some (.int .i64 a.hs) from rfl), c_Slot hC h2.1 (by omega), c_Load hN hsb.1 hsb.2, c_wSlot hwa.1 hwa.2]
 simp only [g4, ruS, ruL, ruE, Nat.reduceAdd, reduceIte, Int.reduceLT, Int.reduceLE, Int.reduceEq, Int.reduceNeg, Int.reduceAdd, Int.reduceSub, Nat.reduceLeDiff, Nat.reduceLT]
 rw [ldAx hd (show sub _ 10 1 false = some (.int .u64 a.cell) from rfl), c_wCell h4.1 h4.2]
 simp only [xFldV, List.toList_toArray, sub4, ruS, ruL, ruE, Nat.reduceAdd, reduceIte, Int.reduceLT, Int.reduceLE, Int.reduceEq, Int.reduceNeg, Int.reduceAdd, Int.reduceSub, Nat.reduceLeDiff, Nat.reduceLT]
 rw [ldAx hd (show sub _ 6 2 true = some (.agg #[.int .i64 a.hs, .int .i64 a.hg]) from rfl), c_Live]
 by_cases hl' : lives (A.w (C.slot a.hs)) a.hg
 ·have e : decide ((slS (A.w (C.slot a.hs)) = 1 ∨ slS (A.w (C.slot a.hs)) = 2 ∨ slS (A.w (C.slot a.hs)) = 4) ∧ slG (A.w (C.slot a.hs)) = a.hg) = true := decide_eq_true hl'
  rw [if_pos hl'] at hk
  simp only [e, ruS, ruL, ruE, Nat.reduceAdd, reduceIte, Int.reduceLT, Int.reduceLE, Int.reduceEq, Int.reduceNeg, Int.reduceAdd, Int.reduceSub, Nat.reduceLeDiff, Nat.reduceLT]
  rw [ldAx hd (show sub _ 9 1 false = some (.int .u64 a.w) from rfl), c_wSlot h3.1 h3.2]
  simp only [xFldV, List.toList_toArray, ruS, ruL, ruE, Nat.reduceAdd, reduceIte, Int.reduceLT, Int.reduceLE, Int.reduceEq, Int.reduceNeg, Int.reduceAdd, Int.reduceSub, Nat.reduceLeDiff, Nat.reduceLT]
  by_cases c1 : slA (A.w (C.slot a.hs)) = slA a.w
  ·rw [if_pos c1] at hk
   simp only [c1, ne_eq, not_true_eq_false, ruS, ruL, ruE, Nat.reduceAdd, reduceIte, Int.reduceLT, Int.reduceLE, Int.reduceEq, Int.reduceNeg, Int.reduceAdd, Int.reduceSub, Nat.reduceLeDiff, Nat.reduceLT]
   rw [ldAx hd (show sub _ 0 1 false = some (.int .i64 a.kd) from rfl)]
   by_cases c2 : a.kd = 3
   ·rw [if_pos c2] at hk
    simp only [c2, ruS, ruL, ruE, Nat.reduceAdd, reduceIte, Int.reduceLT, Int.reduceLE, Int.reduceEq, Int.reduceNeg, Int.reduceAdd, Int.reduceSub, Nat.reduceLeDiff, Nat.reduceLT]
    rw [ldAx hd (show sub _ 12 1 false = some (.int .i64 a.rd) from rfl), c_Aend hd]
    exact behind hN hd hk
   ·rw [if_neg c2] at hk
    simp only [c2, ruS, ruL, ruE, Nat.reduceAdd, reduceIte, Int.reduceLT, Int.reduceLE, Int.reduceEq, Int.reduceNeg, Int.reduceAdd, Int.reduceSub, Nat.reduceLeDiff, Nat.reduceLT]
    rw [ldAx hd (show sub _ 12 1 false = some (.int .i64 a.rd) from rfl), c_Aend hd]
    exact behind hN hd hk
  ·rw [if_neg c1] at hk
   simp only [c1, ne_eq, not_false_eq_true, ruS, ruL, ruE, Nat.reduceAdd, reduceIte, Int.reduceLT, Int.reduceLE, Int.reduceEq, Int.reduceNeg, Int.reduceAdd, Int.reduceSub, Nat.reduceLeDiff, Nat.reduceLT]
   rw [stAx { a with pc := 0 } hd rfl rfl (by decide) rfl]
   exact behind hN hd hk
 ·have e : decide ((slS (A.w (C.slot a.hs)) = 1 ∨ slS (A.w (C.slot a.hs)) = 2 ∨ slS (A.w (C.slot a.hs)) = 4) ∧ slG (A.w (C.slot a.hs)) = a.hg) = false := decide_eq_false hl'
  rw [if_neg hl'] at hk
  simp only [e, ruS, ruL, ruE, Nat.reduceAdd, reduceIte, Int.reduceLT, Int.reduceLE, Int.reduceEq, Int.reduceNeg, Int.reduceAdd, Int.reduceSub, Nat.reduceLeDiff, Nat.reduceLT]
  rw [c_Now, c_Aend hd]
  exact behind hN hd hk
end Go.Fl
namespace Go.Fl
open Go
set_option linter.unusedVariables false
set_option linter.unusedSimpArgs false
variable {N : Nm} {A B : Ar} {σ : Mem} {K : Value → Mem → Prop} {C : Cf} {who : Int}
structure Ak where
 a : Ac
 h : Hl
def Ak.new (kd n ix v old : Int) (own : Bool) : Ak := ⟨Ac.new kd n ix v old own, Hl.new 0 0 0⟩
def Ak.step (C : Cf) (who : Int) (A : Ar) (m : Ak) : Bool × Ak × Ar :=
 if m.a.pc = 4 then
  if (m.h.step C who A).1 = true then (false, { m with a := { m.a with pc := 0 } }, (m.h.step C who A).2.2) else (false, { m with h := (m.h.step C who A).2.1 }, (m.h.step C who A).2.2)
 else ((m.a.step C who A).1, ⟨(m.a.step C who A).2.1, if m.a.pc = 2 then Hl.new m.a.hs m.a.w m.a.size else m.h⟩, (m.a.step C who A).2.2)
structure Ak.fit (C : Cf) (A : Ar) (m : Ak) : Prop where
 a : m.a.fit C A
 h : m.a.pc = 4 → m.h.fit C
def Ac.wh (a : Ac) (x : Option Nat) : Ac := { a with help := x }
theorem Ac.step_help {a : Ac} {x : Option Nat} : (a.wh x).step C who A = ((a.step C who A).1, (a.step C who A).2.1.wh x, (a.step C who A).2.2) := by
 obtain ⟨kd, n, ix, v, old, own, hs, hg, pc, w, cell, seen, rd, size, help, oE, oH, oV, oS⟩ := a
 unfold Ac.step Ac.wh Ac.at' Ac.fin Ac.nxt
 dsimp only
 repeat' split
 all_goals rfl
theorem Ac.step_pc {a : Ac} (h2 : a.pc ≠ 2) (h4 : a.pc ≠ 4) : (a.step C who A).2.1.pc ≠ 4 := by
 unfold Ac.step Ac.fin
 repeat' split
 all_goals (dsimp only; omega)
structure AOb (N : Nm) (p : Nat) (O : List Nat) (m : Ak) (τ : Mem) : Prop where
 obj : ∃ x, τ.get p = some ⟨(m.a.wh x).l, true⟩ ∧ (m.a.pc = 4 → ∃ q, x = some q ∧ q ∈ O ∧ q ≠ p ∧ τ.get q = some ⟨[] ++ m.h.l ++ [], true⟩)
 own : ∀ i ∈ O, i ∉ N.l
 p : p ∈ O
theorem AOb.ext {p : Nat} {O : List Nat} {m : Ak} {τ : Mem} (h : AOb N p O m σ) (x : Ext σ τ) : AOb N p O m τ := by
 obtain ⟨⟨a, h1, h2⟩, h4, h5⟩ := h
 refine ⟨⟨a, x _ _ h1, fun e => ?_⟩, h4, h5⟩
 obtain ⟨q, q1, q2, q3, q4⟩ := h2 e; exact ⟨q, q1, q2, q3, x _ _ q4⟩
theorem AOb.keep {p : Nat} {O L : List Nat} {m : Ak} {τ : Mem} (h : AOb N p O m σ) (x : Keep L σ τ) (hL : ∀ i ∈ O, i ∉ L) : AOb N p O m τ := by
 obtain ⟨⟨a, h1, h2⟩, h4, h5⟩ := h
 refine ⟨⟨a, x.get h1 (hL p h5), fun e => ?_⟩, h4, h5⟩
 obtain ⟨q, q1, q2, q3, q4⟩ := h2 e; exact ⟨q, q1, q2, q3, x.get q4 (hL q q2)⟩
theorem c_Acc_Step (hN : N.ok) (hC : C.ok) (hA : isA N A σ) {p : Nat} {O : List Nat} {m : Ak} (hO : AOb N p O m σ) (hw : ∀ i, 0 ≤ A.w i ∧ A.w i < 18446744073709551616) (hn : C.len ≤ A.n) (hf : m.fit C A)
  (hk : ∀ O' τ, (∀ i ∈ O', i ∈ O ∨ σ.get i = none) → isA N (m.step C who A).2.2 τ → AOb N p O' (m.step C who A).2.1 τ → Keep (O ++ N.l) σ τ → K (.bool (m.step C who A).1) τ) : s_ab [.pointer (some ⟨p, 0, none⟩), N.env C who] K σ := by
 obtain ⟨⟨x, hp, h3⟩, own, pO⟩ := hO
 have hd := own p pO
 have k1 : ∀ {τ : Mem}, Keep (p :: N.l) σ τ → Keep (O ++ N.l) σ τ := fun k => k.mono fun i hi => by
  rcases List.mem_cons.1 hi with rfl | hi
  ·exact List.mem_append_left _ pO
  ·exact List.mem_append_right _ hi
 have same : ∀ i ∈ O, i ∈ O ∨ σ.get i = none := fun i hi => .inl hi
 have cons : ∀ {q : Nat}, σ.get q = none → ∀ i ∈ q :: O, i ∈ O ∨ σ.get i = none := fun h i hi => by rcases List.mem_cons.1 hi with rfl | hi; exact .inr h; exact .inl hi
 have ownc : ∀ {q : Nat}, q ∉ N.l → ∀ i ∈ q :: O, i ∉ N.l := fun h i hi => by rcases List.mem_cons.1 hi with rfl | hi; exact h; exact own i hi
 have hpc := hf.a.pc
 have hfx : (m.a.wh x).fit C A := ⟨hf.a.pc, hf.a.n, hf.a.hs, hf.a.w, hf.a.cell, hf.a.a1, hf.a.a2, hf.a.bd⟩
 have hpx : (m.a.wh x).pc = m.a.pc := rfl
 by_cases c4 : m.a.pc = 4
 ·unfold Ak.step at hk
  rw [if_pos c4] at hk
  obtain ⟨q, rfl, qO, qp, gq⟩ := h3 c4
  have k2 : ∀ {τ : Mem}, Keep (q :: p :: N.l) σ τ → Keep (O ++ N.l) σ τ := fun k => k.mono fun i hi => by
   rcases List.mem_cons.1 hi with rfl | hi
   ·exact List.mem_append_left _ qO
   ·rcases List.mem_cons.1 hi with rfl | hi
    ·exact List.mem_append_left _ pO
    ·exact List.mem_append_right _ hi
  refine c_Ac4 hN hC hA (a := m.a.wh (some q)) (t := m.h) hp hd gq (own q qO) qp hw hn c4 rfl (hf.h c4) (fun d τ u1 u2 u3 u4 => ?_) (fun d τ u1 u2 u3 => ?_)
  ·rw [if_neg (by rw [d]; decide)] at hk
   exact hk O τ same u1 ⟨⟨some q, u2, fun _ => ⟨q, rfl, qO, qp, u3⟩⟩, own, pO⟩ (k2 u4)
  ·rw [if_pos d] at hk
   exact hk O τ same u1 ⟨⟨some q, u2, fun e => by dsimp only at e; omega⟩, own, pO⟩ (k2 u3)
 unfold Ak.step at hk
 rw [if_neg c4] at hk
 by_cases c2 : m.a.pc = 2
 ·rw [if_pos c2] at hk
  have e := Ac.step_help (C := C) (who := who) (A := A) (a := m.a) (x := x)
  refine c_Ac2 hN hC hA (a := m.a.wh x) (who := who) hp hd hw hfx c2 ?_ ?_
  ·rw [e]
   intro c τ u1 u2 u3
   exact hk O τ same u1 ⟨⟨x, u2, fun q => absurd q c⟩, own, pO⟩ (k1 u3)
  ·rw [e]
   intro c q τ q1 q2 u1 u2 u3 u4
   exact hk (q :: O) τ (cons q1) u1 ⟨⟨some q, u2, fun _ => ⟨q, rfl, List.mem_cons_self .., q2, by rw [List.nil_append, List.append_nil]; exact u3⟩⟩, ownc (hA.new q1), List.mem_cons_of_mem _ pO⟩ (k1 u4)
 rw [if_neg c2] at hk
 have np := Ac.step_pc (C := C) (who := who) (A := A) c2 c4
 have hk' : ∀ τ, isA N ((m.a.wh x).step C who A).2.2 τ → τ.get p = some ⟨((m.a.wh x).step C who A).2.1.l, true⟩ → Keep (p :: N.l) σ τ → K (.bool ((m.a.wh x).step C who A).1) τ := by
  rw [Ac.step_help]
  intro τ u1 u2 u3
  exact hk O τ same u1 ⟨⟨x, u2, fun q => absurd q np⟩, own, pO⟩ (k1 u3)
 rcases (show m.a.pc = 0 ∨ m.a.pc = 1 ∨ m.a.pc = 3 ∨ m.a.pc = 5 ∨ m.a.pc = 6 by omega) with c | c | c | c | c
 ·exact c_Ac0 hN hC hA hp hd hw hn hfx c hk'
 ·exact c_Ac1 hN hC hA hp hd hw hfx c hk'
 ·exact c_Ac3 hN hC hA hp hd hn hfx c hk'
 ·exact c_Ac5 hN hC hA hp hd hfx c hk'
 ·exact c_Ac6 hN hC hA hp hd hw hn hfx c hk'
theorem AOb.done {p : Nat} {O : List Nat} {m : Ak} (hA : isA N A σ) (h : AOb N p O m σ) (hk : K (.agg #[.int .i64 m.a.oE, .int .u64 m.a.oH, .int .i64 m.a.oV, .int .i64 m.a.oS]) σ) : s_aa [.pointer (some ⟨p, 0, none⟩)] K σ := by
 obtain ⟨⟨x, hp, _⟩, own, pO⟩ := h
 exact c_AccDone hA (a := m.a.wh x) hp hk
theorem aob_new {kd n ix v old : Int} {o : Bool} (hA : isA N A σ) (hk : ∀ p τ, σ.get p = none → AOb N p [p] (Ak.new kd n ix v old o) τ → Ext σ τ → K (.pointer (some ⟨p, 0, none⟩)) τ) : s_ag [.agg #[.int .i64 kd, .int .u64 n, .int .i64 ix, .int .i64 v, .int .i64 old], .bool o] K σ := by
 refine c_AccNew fun p τ hp gp x => hk p τ hp ⟨⟨none, gp, (fun e => by cases e)⟩, fun i hi => ?_, List.mem_singleton.2 rfl⟩ x
 rw [List.mem_singleton.1 hi]; exact hA.new hp
end Go.Fl
namespace Go.Fl
open Go
set_option linter.unusedVariables false
set_option linter.unusedSimpArgs false
variable {N : Nm} {A B : Ar} {σ : Mem} {K : Value → Mem → Prop} {C : Cf} {who : Int}
theorem Ak.new_fit (hC : C.ok) {kd n ix v old : Int} {o : Bool} (hn : 0 ≤ n ∧ n < 18446744073709551616) (hb : (A.n : Int) ≤ 200000000) : (Ak.new kd n ix v old o).fit C A := by
 have hS := hC.S
 exact ⟨⟨⟨Int.le_refl 0, (by decide : (0 : Int) ≤ 6)⟩, hn, ⟨Int.le_refl 0, by show (0 : Int) < C.S; omega⟩, ⟨Int.le_refl 0, (by decide : (0 : Int) < 18446744073709551616)⟩, ⟨Int.le_refl 0, (by decide : (0 : Int) < 18446744073709551616)⟩, fun e => (by cases e), fun e => (by rcases e with e | e <;> cases e), hb⟩, fun e => (by cases e)⟩
def NaI (C : Cf) (A0 : Ar) (m0 : Ak) (k : Int) (m : Ak) (A : Ar) : Prop :=
 k = 0 ∧ m = m0 ∧ A = A0 ∨ k = 1 ∧ A.w = A0.w ∧ A.s = A0.s + 1 ∧ A.n = A0.n ∧ (∀ bb, A0.ok bb → A.ok (bb + 1)) ∧ m.a.pc = 1 ∧ m.a.n = m0.a.n ∧ m.a.own = m0.a.own ∧ m.a.w = A0.w (C.slot (hdSl m0.a.n)) ∧ (m.a.hs = hdSl m0.a.n ∧ hdSl m0.a.n < C.S) ∧ slA m.a.w < C.len ∧ hdO (A0.w (slA m.a.w)) ≠ m0.a.own ∧ m.a.cell = 0
structure NaD (A0 : Ar) (m : Ak) (A : Ar) : Prop where
 e : m.a.oE = 3 ∧ m.a.oH = 0 ∧ m.a.oV = 0
 s : A0.s ≤ m.a.oS ∧ m.a.oS = A.s ∧ A.s ≤ A0.s + 2
 w : A.w = A0.w
 n : A.n = A0.n
 ok : ∀ bb, A0.ok bb → A.ok (bb + 2)
theorem NaI.step (hC : C.ok) {A0 : Ar} {k bb kd n ix v old : Int} {own : Bool} {m : Ak} (h : NaI C A0 (Ak.new kd n ix v old own) k m A) (hn : NoDrop C A0.w n own) (h0 : 0 ≤ n ∧ n < 18446744073709551616) (ok : A0.ok bb) (hb : bb < 4611686018427387904) (hl : C.len ≤ A0.n) (hb2 : (A0.n : Int) ≤ 200000000) :
  m.fit C A ∧ (A.ok (bb + 1) ∧ C.len ≤ A.n ∧ ((m.step C who A).2.2 = A ∨ ∃ a, (m.step C who A).2.2 = (A.by who).load a ∧ 0 ≤ a ∧ a < C.len)) ∧ (((m.step C who A).1 = false ∧ NaI C A0 (Ak.new kd n ix v old own) (k + 1) (m.step C who A).2.1 (m.step C who A).2.2) ∨ ((m.step C who A).1 = true ∧ NaD A0 (m.step C who A).2.1 (m.step C who A).2.2)) := by
 rcases h with ⟨rfl, rfl, rfl⟩ | ⟨rfl, ew, es, en, eo, h1, h2, h3, h4, h5, h6, h7, h8⟩
 ·have hT := hC.T
  have hS := hC.S
  have hCC := hC.C
  have hll := len_bd hC
  have hsb : hdSl n < C.S → 0 ≤ C.slot (hdSl n) ∧ C.slot (hdSl n) < C.len := fun q => by have := hdSl_bd h0.1; unfold Cf.slot; unfold Cf.chunk at hll; omega
  refine ⟨Ak.new_fit hC h0 hb2, ?_⟩
  suffices H : _ ∧ _ from ⟨⟨ok_mono ok (by omega), hl, H.1⟩, H.2⟩
  have p0 : (Ak.new kd n ix v old own).a.pc = 0 := rfl
  have hb := hdSl_bd h0.1
  have a1 := aft_load (who := who) (A := A) (a := C.slot (hdSl n)) ok (by omega)
  have e0 : (Ak.new kd n ix v old own).step C who A = (((Ak.new kd n ix v old own).a.step C who A).1, ⟨((Ak.new kd n ix v old own).a.step C who A).2.1, (Ak.new kd n ix v old own).h⟩, ((Ak.new kd n ix v old own).a.step C who A).2.2) := by
   unfold Ak.step; rw [if_neg (by rw [p0]; decide), if_neg (by rw [p0]; decide)]
  rw [e0]
  by_cases c : hdOk n = false ∨ C.S ≤ hdSl n
  ·have e : (Ak.new kd n ix v old own).a.step C who A = (true, ({ (Ak.new kd n ix v old own).a with hs := hdSl n, hg := hdGe n } : Ac).fin 3 0 A.s, A) := by
    unfold Ac.step; rw [if_pos p0, if_pos (show hdOk (Ak.new kd n ix v old own).a.n = false ∨ C.S ≤ hdSl (Ak.new kd n ix v old own).a.n from c)]; rfl
   rw [e]
   refine ⟨.inl rfl, ?_⟩
   exact .inr ⟨rfl, ⟨rfl, rfl, rfl⟩, ⟨Int.le_refl _, rfl, by dsimp only; omega⟩, rfl, rfl, fun b2 o2 => ok_mono o2 (by omega)⟩
  ·rcases hn with hn | ⟨hn1, hn⟩
   ·exact absurd hn c
   rcases hn with hn | ⟨hn, h8, h9⟩
   ·have e : (Ak.new kd n ix v old own).a.step C who A = (true, ({ (Ak.new kd n ix v old own).a with hs := hdSl n, hg := hdGe n, w := A.w (C.slot (hdSl n)), seen := ((A.by who).load (C.slot (hdSl n))).s, pc := 1 } : Ac).fin 3 0 ((A.by who).load (C.slot (hdSl n))).s, (A.by who).load (C.slot (hdSl n))) := by
     unfold Ac.step; rw [if_pos p0, if_neg (show ¬ (hdOk (Ak.new kd n ix v old own).a.n = false ∨ C.S ≤ hdSl (Ak.new kd n ix v old own).a.n) from c), if_neg (show ¬ lives (A.w (C.slot (hdSl (Ak.new kd n ix v old own).a.n))) (hdGe (Ak.new kd n ix v old own).a.n) from hn)]; rfl
    rw [e]
    refine ⟨.inr ⟨_, rfl, hsb hn1.2⟩, ?_⟩
    exact .inr ⟨rfl, ⟨rfl, rfl, rfl⟩, ⟨by have := a1.s; show A.s ≤ ((A.by who).load (C.slot (hdSl n))).s; omega, rfl, by have := a1.s; show ((A.by who).load (C.slot (hdSl n))).s ≤ _; omega⟩, rfl, rfl, fun b2 o2 => ok_mono (a1.ok (by decide) o2 o2.w) (by omega)⟩
   ·have e : (Ak.new kd n ix v old own).a.step C who A = (false, { (Ak.new kd n ix v old own).a with hs := hdSl n, hg := hdGe n, w := A.w (C.slot (hdSl n)), seen := ((A.by who).load (C.slot (hdSl n))).s, pc := 1 }, (A.by who).load (C.slot (hdSl n))) := by
     unfold Ac.step; rw [if_pos p0, if_neg (show ¬ (hdOk (Ak.new kd n ix v old own).a.n = false ∨ C.S ≤ hdSl (Ak.new kd n ix v old own).a.n) from c), if_pos (show lives (A.w (C.slot (hdSl (Ak.new kd n ix v old own).a.n))) (hdGe (Ak.new kd n ix v old own).a.n) from hn)]; rfl
    rw [e]
    refine ⟨.inr ⟨_, rfl, hsb hn1.2⟩, ?_⟩
    exact .inl ⟨rfl, .inr ⟨rfl, rfl, a1.s, rfl, fun b2 o2 => a1.ok (by decide) o2 o2.w, rfl, rfl, rfl, rfl, ⟨rfl, hn1.2⟩, h8, h9, rfl⟩⟩
 ·have ok' := eo bb ok
  have hb' := hdSl_bd h0.1
  have hnn : (Ak.new kd n ix v old own).a.n = n := rfl
  have hoo : (Ak.new kd n ix v old own).a.own = own := rfl
  rw [hnn] at h2 h4 h5
  rw [hoo] at h3 h7
  refine ⟨⟨⟨by omega, by rw [h2]; exact h0, by rw [h5.1]; exact ⟨hb'.1.1, h5.2⟩, by rw [h4]; exact ok.w _, by rw [h8]; decide, fun _ => by omega, fun e => by omega, by omega⟩, fun e => by omega⟩, ?_⟩
  suffices H : _ ∧ _ from ⟨⟨ok', by omega, H.1⟩, H.2⟩
  have a1 := aft_load (who := who) (A := A) (a := slA m.a.w) ok' (by omega)
  have e0 : m.step C who A = ((m.a.step C who A).1, ⟨(m.a.step C who A).2.1, m.h⟩, (m.a.step C who A).2.2) := by
   unfold Ak.step; rw [if_neg (by omega), if_neg (by omega)]
  have e : m.a.step C who A = (true, ({ m.a with size := hdS (A.w (slA m.a.w)), pc := 2 } : Ac).fin 3 0 ((A.by who).load (slA m.a.w)).s, (A.by who).load (slA m.a.w)) := by
   unfold Ac.step; rw [if_neg (by omega), if_pos h1, if_pos (by rw [h3, ew]; exact h7)]
  rw [e0, e]
  refine ⟨.inr ⟨_, rfl, (slA_bd _).1, h6⟩, ?_⟩
  refine .inr ⟨rfl, ⟨rfl, rfl, rfl⟩, ⟨by have := a1.s; show A0.s ≤ ((A.by who).load (slA m.a.w)).s; omega, rfl, by have := a1.s; show ((A.by who).load (slA m.a.w)).s ≤ _; omega⟩, ew, en, fun b2 o2 => ?_⟩
  rw [show b2 + 2 = b2 + 1 + 1 by omega]
  exact a1.ok (by decide) (eo b2 o2) (eo b2 o2).w
end Go.Fl
namespace Go.Fl
open Go
set_option linter.unusedVariables false
set_option linter.unusedSimpArgs false
variable {N : Nm} {A B : Ar} {σ : Mem} {K : Value → Mem → Prop} {C : Cf} {who : Int}
def okAct (k v old : Int) : Prop := (1 ≤ k ∧ k ≤ 5) ∧ (0 ≤ v ∧ v ≤ 1099511627775) ∧ (0 ≤ old ∧ old ≤ 1099511627775)
instance {k v old : Int} : Decidable (okAct k v old) := inferInstanceAs (Decidable (_ ∧ _))
theorem box7 {k sz h ix v old : Int} {own : Bool} : gBox 7 [.agg #[.int .i64 k, .int .i64 sz, .int .u64 h, .int .i64 ix, .int .i64 v, .int .i64 old, .bool own]] [] = some [.int .i64 k, .int .i64 sz, .int .u64 h, .int .i64 ix, .int .i64 v, .int .i64 old, .bool own] := nr rfl
theorem sub7 {a b c d e f g : Value} : sub [a, b, c, d, e, f, g] 0 7 true = some (.agg #[a, b, c, d, e, f, g]) := nr rfl
theorem c_ActCheck {k sz h ix v old : Int} {own : Bool} : s_aj [.agg #[.int .i64 k, .int .i64 sz, .int .u64 h, .int .i64 ix, .int .i64 v, .int .i64 old, .bool own]] K σ = K (.bool (decide (okAct k v old))) σ := by
 have fin : ∀ b : Bool, (b = true ↔ (0 ≤ v ∧ v ≤ 1099511627775) ∧ (0 ≤ old ∧ old ≤ 1099511627775)) → w_aj_j1 K [.bool b] [[.int .i64 k, .int .i64 sz, .int .u64 h, .int .i64 ix, .int .i64 v, .int .i64 old, .bool own]] σ = K (.bool (decide (okAct k v old))) σ := by
  intro b hb
  simp only [w_aj_j1, w_aj_j1b, ruS, ruL, ruE, Nat.reduceAdd, reduceIte, Int.reduceLT, Int.reduceLE, Int.reduceEq, Int.reduceNeg, Int.reduceAdd, Int.reduceSub, Nat.reduceLeDiff, Nat.reduceLT]
  have key : (decide (okAct k v old)) = (decide (1 ≤ k) && decide (k ≤ 5) && b) := by
   rw [Bool.eq_iff_iff]
   simp only [Bool.and_eq_true, decide_eq_true_eq, hb]
   unfold okAct
   exact Iff.rfl
  rw [key]
  by_cases c1 : 1 ≤ k
  ·by_cases c2 : k ≤ 5
   ·simp only [c1, c2, ruS, ruL, ruE, Nat.reduceAdd, reduceIte, Int.reduceLT, Int.reduceLE, Int.reduceEq, Int.reduceNeg, Int.reduceAdd, Int.reduceSub, Nat.reduceLeDiff, Nat.reduceLT]; simp
   ·simp only [c1, c2, ruS, ruL, ruE, Nat.reduceAdd, reduceIte, Int.reduceLT, Int.reduceLE, Int.reduceEq, Int.reduceNeg, Int.reduceAdd, Int.reduceSub, Nat.reduceLeDiff, Nat.reduceLT]; simp
  ·simp only [c1, ruS, ruL, ruE, Nat.reduceAdd, reduceIte, Int.reduceLT, Int.reduceLE, Int.reduceEq, Int.reduceNeg, Int.reduceAdd, Int.reduceSub, Nat.reduceLeDiff, Nat.reduceLT]; simp
 simp only [s_aj, w_aj, box7, ruS, ruL, ruE, Nat.reduceAdd, reduceIte, Int.reduceLT, Int.reduceLE, Int.reduceEq, Int.reduceNeg, Int.reduceAdd, Int.reduceSub, Nat.reduceLeDiff, Nat.reduceLT]
 by_cases c1 : 0 ≤ v
 ·by_cases c2 : v ≤ 1099511627775
  ·by_cases c3 : 0 ≤ old
   ·by_cases c4 : old ≤ 1099511627775
    ·simp only [c1, c2, c3, c4, ruS, ruL, ruE, Nat.reduceAdd, reduceIte, Int.reduceLT, Int.reduceLE, Int.reduceEq, Int.reduceNeg, Int.reduceAdd, Int.reduceSub, Nat.reduceLeDiff, Nat.reduceLT]; exact fin true (by simp [c1, c2, c3, c4])
    ·simp only [c1, c2, c3, c4, ruS, ruL, ruE, Nat.reduceAdd, reduceIte, Int.reduceLT, Int.reduceLE, Int.reduceEq, Int.reduceNeg, Int.reduceAdd, Int.reduceSub, Nat.reduceLeDiff, Nat.reduceLT]; exact fin false (by simp [c4])
   ·simp only [c1, c2, c3, ruS, ruL, ruE, Nat.reduceAdd, reduceIte, Int.reduceLT, Int.reduceLE, Int.reduceEq, Int.reduceNeg, Int.reduceAdd, Int.reduceSub, Nat.reduceLeDiff, Nat.reduceLT]; exact fin false (by simp [c3])
  ·simp only [c1, c2, ruS, ruL, ruE, Nat.reduceAdd, reduceIte, Int.reduceLT, Int.reduceLE, Int.reduceEq, Int.reduceNeg, Int.reduceAdd, Int.reduceSub, Nat.reduceLeDiff, Nat.reduceLT]; exact fin false (by simp [c2])
 ·simp only [c1, ruS, ruL, ruE, Nat.reduceAdd, reduceIte, Int.reduceLT, Int.reduceLE, Int.reduceEq, Int.reduceNeg, Int.reduceAdd, Int.reduceSub, Nat.reduceLeDiff, Nat.reduceLT]; exact fin false (by simp [c1])
theorem c_awake15 : s_a6 [] K σ = K (.bool true) σ := by unfold s_a6; exact nr rfl
end Go.Fl
namespace Go.Fl
open Go
set_option linter.unusedVariables false
set_option linter.unusedSimpArgs false
variable {N : Nm} {A B : Ar} {σ : Mem} {K : Value → Mem → Prop} {C : Cf} {who : Int}
inductive Wk where
 | al (m : Am)
 | dr (m : Dm)
 | ac (m : Ak)
def Wk.ty : Wk → Nat
 | .al _ => 83
 | .dr _ => 85
 | .ac _ => 87
def Wk.step (C : Cf) (who : Int) (A : Ar) : Wk → Bool × Wk × Ar
 | .al m => ((m.step C who A).1, .al (m.step C who A).2.1, (m.step C who A).2.2)
 | .dr m => ((m.step C who A).1, .dr (m.step C who A).2.1, (m.step C who A).2.2)
 | .ac m => ((m.step C who A).1, .ac (m.step C who A).2.1, (m.step C who A).2.2)
def Wk.fit (C : Cf) (A : Ar) : Wk → Prop
 | .al m => m.fit C A
 | .dr m => m.fit C A
 | .ac m => m.fit C A
def Wk.ob (N : Nm) (q : Nat) (O : List Nat) (τ : Mem) : Wk → Prop
 | .al m => Ob N q O m τ
 | .dr m => DOb N q O m τ
 | .ac m => AOb N q O m τ
def Wk.oE : Wk → Int
 | .al m => m.a.oE
 | .dr m => m.d.oE
 | .ac m => m.a.oE
def Wk.oH : Wk → Int
 | .al m => m.a.oH
 | .dr m => m.d.oH
 | .ac m => m.a.oH
def Wk.oV : Wk → Int
 | .al m => m.a.oV
 | .dr m => m.d.oV
 | .ac m => m.a.oV
def Wk.oS : Wk → Int
 | .al m => m.a.oS
 | .dr m => m.d.oS
 | .ac m => m.a.oS
theorem Wk.ty_step {k : Wk} : (k.step C who A).2.1.ty = k.ty := by cases k <;> rfl
theorem c_WkStep (hN : N.ok) (hC : C.ok) (hA : isA N A σ) {q : Nat} {O : List Nat} {k : Wk} (hO : k.ob N q O σ) (hw : ∀ i, 0 ≤ A.w i ∧ A.w i < 18446744073709551616) (hn : C.len ≤ A.n) (hf : k.fit C A)
  (hk : ∀ O' τ, (∀ i ∈ O', i ∈ O ∨ σ.get i = none) → isA N (k.step C who A).2.2 τ → (k.step C who A).2.1.ob N q O' τ → Keep (O ++ N.l) σ τ → K (.bool (k.step C who A).1) τ) :
  hInv [(83, s_an), (85, s_as), (87, s_ab)] [.iface k.ty (.pointer (some ⟨q, 0, none⟩)), N.env C who] K σ := by
 cases k with
 | al m => exact c_Alloc_Step hN hC hA hO hw hn hf hk
 | dr m => exact c_Drop_Step hN hC hA hO hw hn hf hk
 | ac m => exact c_Acc_Step hN hC hA hO hw hn hf hk
theorem c_WkDone (hA : isA N A σ) {q : Nat} {O : List Nat} {k : Wk} (hO : k.ob N q O σ) (hk : K (.agg #[.int .i64 k.oE, .int .u64 k.oH, .int .i64 k.oV, .int .i64 k.oS]) σ) :
  hInv [(83, s_am), (85, s_ar), (87, s_aa)] [.iface k.ty (.pointer (some ⟨q, 0, none⟩))] K σ := by
 cases k with
 | al m => exact Ob.done hA hO hk
 | dr m => exact DOb.done hA hO hk
 | ac m => exact AOb.done hA hO hk
structure Aa where
 ip : Int
 ep : Int
 pc : Int
 wk : Wk
 oE : Int
 oH : Int
 oV : Int
 oS : Int
def Aa.l (a : Aa) (q : Nat) : List Value := [.int .i64 a.ip, .int .u64 a.ep, .int .i64 a.pc, .iface a.wk.ty (.pointer (some ⟨q, 0, none⟩)), .int .i64 a.oE, .int .u64 a.oH, .int .i64 a.oV, .int .i64 a.oS]
def Aa.new (k : Wk) : Aa := ⟨0, 0, 0, k, 0, 0, 0, 0⟩
def Aa.step (C : Cf) (who : Int) (A : Ar) (a : Aa) : Bool × Aa × Ar :=
 if a.pc = 0 then
  if a.ip = 0 then (false, { a with ip := 1, ep := A.w 0 }, (A.by who).load 0)
  else if a.ip = 1 then (false, { a with ip := 2 }, (A.by who).store (6 + who) (IntKind.u64.wrap (a.ep + 1)))
  else if A.w 0 = a.ep then (false, { a with pc := 1 }, (A.by who).load 0)
  else (false, { a with ip := 1, ep := A.w 0 }, (A.by who).load 0)
 else if a.pc = 1 then
  if (a.wk.step C who A).1 = true then (false, { a with wk := (a.wk.step C who A).2.1, oE := (a.wk.step C who A).2.1.oE, oH := (a.wk.step C who A).2.1.oH, oV := (a.wk.step C who A).2.1.oV, oS := (a.wk.step C who A).2.1.oS, pc := 2 }, (a.wk.step C who A).2.2)
  else (false, { a with wk := (a.wk.step C who A).2.1 }, (a.wk.step C who A).2.2)
 else (true, a, (A.by who).store (6 + who) 0)
theorem ldAa {p q k sz : Nat} {ag : Bool} {a : Aa} {v : Value} (hd : p ∉ N.l) (h : sub (a.l q) k sz ag = some v) : hLoad sz ag [.pointer (some ⟨p, k, none⟩)] K (putA N A (σ.set p ⟨a.l q, true⟩)) = K v (putA N A (σ.set p ⟨a.l q, true⟩)) := by
 rw [hLoad_eq ((putA_get hd).trans (Mem.get_set_same _ _ _)), h, xOs]
theorem stAa {p q k : Nat} {a : Aa} (a' : Aa) {x : Value} (hd : p ∉ N.l) (hx : cellsOf x 1 = some [x]) (ho : oneB x = true) (hk : k + 1 ≤ 8) (e : lay (a.l q) k [x] = a'.l q) :
  hStore 1 [.pointer (some ⟨p, k, none⟩), x] K (putA N A (σ.set p ⟨a.l q, true⟩)) = K undef (putA N A (σ.set p ⟨a'.l q, true⟩)) := by
 have := stO (K := K) (N := N) (A := A) (σ := σ) (p := p) (pre := []) (L := a.l q) (post := []) (k := k) (sz := 1) (x := x) (c := [x]) hd hx rfl hk (by simp [ho])
 rw [e] at this
 simpa only [List.nil_append, List.append_nil, List.length_nil, Nat.zero_add] using this
theorem stAaa {p q k sz : Nat} {a : Aa} (a' : Aa) {c : List Value} (hd : p ∉ N.l) (hl : c.length = sz) (ho : c.all oneB = true) (hk : k + sz ≤ 8) (e : lay (a.l q) k c = a'.l q) :
  hStore sz [.pointer (some ⟨p, k, none⟩), .agg c.toArray] K (putA N A (σ.set p ⟨a.l q, true⟩)) = K undef (putA N A (σ.set p ⟨a'.l q, true⟩)) := by
 have := stOa (K := K) (N := N) (A := A) (σ := σ) (p := p) (pre := []) (L := a.l q) (post := []) (k := k) (sz := sz) (c := c) hd hl hk ho
 rw [e] at this
 simpa only [List.nil_append, List.append_nil, List.length_nil, Nat.zero_add] using this
theorem stA4 {p q : Nat} {a : Aa} {e h v s : Int} (a' : Aa) (hd : p ∉ N.l) (e' : lay (a.l q) 4 [.int .i64 e, .int .u64 h, .int .i64 v, .int .i64 s] = a'.l q) :
  hStore 4 [.pointer (some ⟨p, 4, none⟩), .agg #[.int .i64 e, .int .u64 h, .int .i64 v, .int .i64 s]] K (putA N A (σ.set p ⟨a.l q, true⟩)) = K undef (putA N A (σ.set p ⟨a'.l q, true⟩)) :=
 stAaa (sz := 4) (k := 4) (c := [.int .i64 e, .int .u64 h, .int .i64 v, .int .i64 s]) a' hd rfl rfl (by decide) e'
theorem box9 {c : Cf} : gBox 9 [N.env c who] [] = some (N.el c who) := nr rfl
theorem c_InStep (hN : N.ok) (hC : C.ok) {p q : Nat} {a : Aa} (hd : p ∉ N.l) (hn : C.len ≤ A.n) (hw : 0 ≤ who ∧ who < C.T) (hip : a.ip = 0 ∨ a.ip = 1 ∨ a.ip = 2) :
  s_b2 [.pointer (some ⟨p, 0, none⟩), N.env C who] K (putA N A (σ.set p ⟨a.l q, true⟩)) =
   (if a.ip = 0 then K (.bool false) (putA N ((A.by who).load 0) (σ.set p ⟨({ a with ip := 1, ep := A.w 0 } : Aa).l q, true⟩))
   else if a.ip = 1 then K (.bool false) (putA N ((A.by who).store (6 + who) (IntKind.u64.wrap (a.ep + 1))) (σ.set p ⟨({ a with ip := 2 } : Aa).l q, true⟩))
   else if A.w 0 = a.ep then K (.bool true) (putA N ((A.by who).load 0) (σ.set p ⟨a.l q, true⟩))
   else K (.bool false) (putA N ((A.by who).load 0) (σ.set p ⟨({ a with ip := 1, ep := A.w 0 } : Aa).l q, true⟩))) := by
 have hT := hC.T; have hS := hC.S; have hC3 := hC.C; have hl := len_bd hC
 have hch : C.chunk C.C = 6 + C.T + 2 * C.S + 3 * C.C := rfl
 have e8 : sub (N.el C who) 8 1 false = some (.int .i64 who) := rfl
 simp only [s_b2, w_b2, box9, ldAa (K := _) hd (show sub (a.l q) 0 1 false = some (.int .i64 a.ip) from rfl), ruS, ruL, ruE, Nat.reduceAdd, reduceIte, Int.reduceLT, Int.reduceLE, Int.reduceEq, Int.reduceNeg, Int.reduceAdd, Int.reduceSub, Nat.reduceLeDiff, Nat.reduceLT]
 rcases hip with h | h | h
 ·simp only [h, ruS, ruL, ruE, Nat.reduceAdd, reduceIte, Int.reduceLT, Int.reduceLE, Int.reduceEq, Int.reduceNeg, Int.reduceAdd, Int.reduceSub, Nat.reduceLeDiff, Nat.reduceLT]
  rw [c_Epoch, c_Load hN (by decide) (by omega)]
  rw [stAa ({ a with ep := A.w 0 } : Aa) hd rfl rfl (by decide) rfl]
  rw [stAa ({ a with ip := 1, ep := A.w 0 } : Aa) hd rfl rfl (by decide) rfl]
  simp only [w_b2_j1, w_b2_j1b, ruS, ruL, ruE, Nat.reduceAdd, reduceIte, Int.reduceLT, Int.reduceLE, Int.reduceEq, Int.reduceNeg, Int.reduceAdd, Int.reduceSub, Nat.reduceLeDiff, Nat.reduceLT]
 ·simp only [h, e8, ruS, ruL, ruE, Nat.reduceAdd, reduceIte, Int.reduceLT, Int.reduceLE, Int.reduceEq, Int.reduceNeg, Int.reduceAdd, Int.reduceSub, Nat.reduceLeDiff, Nat.reduceLT]
  rw [c_Pin hw.1 (by omega)]
  rw [ldAa hd (show sub (a.l q) 1 1 false = some (.int .u64 a.ep) from rfl)]
  simp only [ruS, ruL, ruE, Nat.reduceAdd, reduceIte, Int.reduceLT, Int.reduceLE, Int.reduceEq, Int.reduceNeg, Int.reduceAdd, Int.reduceSub, Nat.reduceLeDiff, Nat.reduceLT]
  rw [c_Store hN (by omega) (by omega)]
  rw [stAa ({ a with ip := 2 } : Aa) hd rfl rfl (by decide) rfl]
  simp only [w_b2_j1, w_b2_j1b, ruS, ruL, ruE, Nat.reduceAdd, reduceIte, Int.reduceLT, Int.reduceLE, Int.reduceEq, Int.reduceNeg, Int.reduceAdd, Int.reduceSub, Nat.reduceLeDiff, Nat.reduceLT]
 ·simp only [h, ruS, ruL, ruE, Nat.reduceAdd, reduceIte, Int.reduceLT, Int.reduceLE, Int.reduceEq, Int.reduceNeg, Int.reduceAdd, Int.reduceSub, Nat.reduceLeDiff, Nat.reduceLT]
  rw [c_Epoch, c_Load hN (by decide) (by omega)]
  rw [ldAa hd (show sub (a.l q) 1 1 false = some (.int .u64 a.ep) from rfl)]
  by_cases c : A.w 0 = a.ep
  ·simp only [c, ruS, ruL, ruE, Nat.reduceAdd, reduceIte, Int.reduceLT, Int.reduceLE, Int.reduceEq, Int.reduceNeg, Int.reduceAdd, Int.reduceSub, Nat.reduceLeDiff, Nat.reduceLT]
  ·simp only [c, ruS, ruL, ruE, Nat.reduceAdd, reduceIte, Int.reduceLT, Int.reduceLE, Int.reduceEq, Int.reduceNeg, Int.reduceAdd, Int.reduceSub, Nat.reduceLeDiff, Nat.reduceLT]
   rw [stAa ({ a with ep := A.w 0 } : Aa) hd rfl rfl (by decide) rfl]
   rw [stAa ({ a with ip := 1, ep := A.w 0 } : Aa) hd rfl rfl (by decide) rfl]
   simp only [w_b2_j1, w_b2_j1b, ruS, ruL, ruE, Nat.reduceAdd, reduceIte, Int.reduceLT, Int.reduceLE, Int.reduceEq, Int.reduceNeg, Int.reduceAdd, Int.reduceSub, Nat.reduceLeDiff, Nat.reduceLT]
structure TOb (N : Nm) (p : Nat) (O : List Nat) (a : Aa) (τ : Mem) : Prop where
 obj : ∃ q, τ.get p = some ⟨a.l q, true⟩ ∧ a.wk.ob N q O τ
 po : p ∉ O
 pn : p ∉ N.l
theorem Ob.keep {p : Nat} {O L : List Nat} {m : Am} {τ : Mem} (h : Ob N p O m σ) (x : Keep L σ τ) (hL : ∀ i ∈ O, i ∉ L) : Ob N p O m τ := by
 obtain ⟨⟨a, b, h1, h2, h3⟩, h4, h5⟩ := h
 refine ⟨⟨a, b, x.get h1 (hL p h5), fun e => ?_, fun e => ?_⟩, h4, h5⟩
 ·obtain ⟨q, q1, q2, q3, q4⟩ := h2 e; exact ⟨q, q1, q2, q3, x.get q4 (hL q q2)⟩
 ·obtain ⟨q, q1, q2, q3, q4⟩ := h3 e; exact ⟨q, q1, q2, q3, x.get q4 (hL q q2)⟩
theorem DOb.keep {p : Nat} {O L : List Nat} {m : Dm} {τ : Mem} (h : DOb N p O m σ) (x : Keep L σ τ) (hL : ∀ i ∈ O, i ∉ L) : DOb N p O m τ := by
 obtain ⟨⟨a, b, h1, h2, h3⟩, h4, h5⟩ := h
 refine ⟨⟨a, b, x.get h1 (hL p h5), fun e => ?_, fun e => ?_⟩, h4, h5⟩
 ·obtain ⟨q, q1, q2, q3, q4⟩ := h2 e; exact ⟨q, q1, q2, q3, x.get q4 (hL q q2)⟩
 ·obtain ⟨q, q1, q2, q3, q4⟩ := h3 e; exact ⟨q, q1, q2, q3, x.get q4 (hL q q2)⟩
theorem Wk.ob_own {q : Nat} {O : List Nat} {k : Wk} (h : k.ob N q O σ) : ∀ i ∈ O, i ∉ N.l := by cases k <;> exact h.own
theorem Wk.ob_keep {q : Nat} {O L : List Nat} {k : Wk} {τ : Mem} (h : k.ob N q O σ) (x : Keep L σ τ) (hL : ∀ i ∈ O, i ∉ L) : k.ob N q O τ := by
 cases k with
 | al m => exact Ob.keep h x hL
 | dr m => exact DOb.keep h x hL
 | ac m => exact AOb.keep h x hL
theorem c_ActStep (hN : N.ok) (hC : C.ok) (hA : isA N A σ) {p : Nat} {O : List Nat} {a : Aa} (hO : TOb N p O a σ) (hw : ∀ i, 0 ≤ A.w i ∧ A.w i < 18446744073709551616) (hn : C.len ≤ A.n) (hwho : 0 ≤ who ∧ who < C.T) (hip : a.ip = 0 ∨ a.ip = 1 ∨ a.ip = 2) (hpc : a.pc = 0 ∨ a.pc = 1 ∨ a.pc = 2) (hf : a.pc = 1 → a.wk.fit C A)
  (hk : ∀ O' τ, (∀ i ∈ O', i ∈ O ∨ σ.get i = none) → isA N (a.step C who A).2.2 τ → TOb N p O' (a.step C who A).2.1 τ → Keep (p :: (O ++ N.l)) σ τ → K (.bool (a.step C who A).1) τ) : s_ai [.pointer (some ⟨p, 0, none⟩), N.env C who] K σ := by
 obtain ⟨⟨q, gp, wo⟩, pO, hd⟩ := hO
 have hT := hC.T; have hS := hC.S; have hC3 := hC.C; have hl := len_bd hC
 have hch : C.chunk C.C = 6 + C.T + 2 * C.S + 3 * C.C := rfl
 have own := Wk.ob_own wo
 have dj : ∀ i ∈ O, i ∉ p :: N.l := fun i hi => by
  simp only [List.mem_cons, not_or]; exact ⟨fun e => pO (e ▸ hi), own i hi⟩
 have kk : ∀ {τ : Mem}, Keep (p :: N.l) σ τ → Keep (p :: (O ++ N.l)) σ τ := fun k => k.mono fun i hi => by
  rcases List.mem_cons.1 hi with rfl | hi
  ·exact List.mem_cons_self ..
  ·exact List.mem_cons_of_mem _ (List.mem_append_right _ hi)
 have e8 : sub (N.el C who) 8 1 false = some (.int .i64 who) := rfl
 have bO : ∀ K : Value → Prop, xF (fBuild [] [] []) [] K = K (.agg #[]) := fun K => nr rfl
 rcases hpc with h | h | h
 · -- pinning
  unfold Aa.step at hk
  rw [if_pos h] at hk
  rw [hA.obj gp]
  simp only [s_ai, w_ai, box9, ldAa (K := _) hd (show sub (a.l q) 2 1 false = some (.int .i64 a.pc) from rfl), h, ruS, ruL, ruE, Nat.reduceAdd, reduceIte, Int.reduceLT, Int.reduceLE, Int.reduceEq, Int.reduceNeg, Int.reduceAdd, Int.reduceSub, Nat.reduceLeDiff, Nat.reduceLT]
  rw [c_InStep hN hC hd hn hwho hip]
  have done : ∀ {A' : Ar} {a' : Aa}, a'.wk = a.wk → (∀ τ, isA N A' τ → TOb N p O a' τ → Keep (p :: (O ++ N.l)) σ τ → K (.bool false) τ) → K (.bool false) (putA N A' (σ.set p ⟨a'.l q, true⟩)) := fun {A' a'} e hk =>
   behind hN hd fun τ h1 h2 h3 => hk τ h1 ⟨⟨q, h2, by rw [e]; exact Wk.ob_keep wo h3 dj⟩, pO, hd⟩ (kk h3)
  by_cases c0 : a.ip = 0
  ·rw [if_pos c0] at hk ⊢
   simp only [w_ai_j1, w_ai_j1b, ruS, ruL, ruE, Nat.reduceAdd, reduceIte, Int.reduceLT, Int.reduceLE, Int.reduceEq, Int.reduceNeg, Int.reduceAdd, Int.reduceSub, Nat.reduceLeDiff, Nat.reduceLT]
   exact done rfl fun τ h1 h2 h3 => hk O τ (fun i hi => .inl hi) h1 h2 h3
  ·rw [if_neg c0] at hk ⊢
   by_cases c1 : a.ip = 1
   ·rw [if_pos c1] at hk ⊢
    simp only [w_ai_j1, w_ai_j1b, ruS, ruL, ruE, Nat.reduceAdd, reduceIte, Int.reduceLT, Int.reduceLE, Int.reduceEq, Int.reduceNeg, Int.reduceAdd, Int.reduceSub, Nat.reduceLeDiff, Nat.reduceLT]
    exact done rfl fun τ h1 h2 h3 => hk O τ (fun i hi => .inl hi) h1 h2 h3
   ·rw [if_neg c1] at hk ⊢
    by_cases c2 : A.w 0 = a.ep
    ·rw [if_pos c2] at hk ⊢
     simp only [ruS, ruL, ruE, Nat.reduceAdd, reduceIte, Int.reduceLT, Int.reduceLE, Int.reduceEq, Int.reduceNeg, Int.reduceAdd, Int.reduceSub, Nat.reduceLeDiff, Nat.reduceLT]
     rw [stAa ({ a with pc := 1 } : Aa) hd rfl rfl (by decide) rfl]
     simp only [w_ai_j1, w_ai_j1b, ruS, ruL, ruE, Nat.reduceAdd, reduceIte, Int.reduceLT, Int.reduceLE, Int.reduceEq, Int.reduceNeg, Int.reduceAdd, Int.reduceSub, Nat.reduceLeDiff, Nat.reduceLT]
     exact done rfl fun τ h1 h2 h3 => hk O τ (fun i hi => .inl hi) h1 h2 h3
    ·rw [if_neg c2] at hk ⊢
     simp only [w_ai_j1, w_ai_j1b, ruS, ruL, ruE, Nat.reduceAdd, reduceIte, Int.reduceLT, Int.reduceLE, Int.reduceEq, Int.reduceNeg, Int.reduceAdd, Int.reduceSub, Nat.reduceLeDiff, Nat.reduceLT]
     exact done rfl fun τ h1 h2 h3 => hk O τ (fun i hi => .inl hi) h1 h2 h3
 · -- doing
  unfold Aa.step at hk
  rw [if_neg (by omega), if_pos h] at hk
  simp only [s_ai, w_ai, box9, ldG gp (show sub (a.l q) 2 1 false = some (.int .i64 a.pc) from rfl), ldG gp (show sub (a.l q) 3 1 false = some (.iface a.wk.ty (.pointer (some ⟨q, 0, none⟩))) from rfl), h, ruS, ruL, ruE, Nat.reduceAdd, reduceIte, Int.reduceLT, Int.reduceLE, Int.reduceEq, Int.reduceNeg, Int.reduceAdd, Int.reduceSub, Nat.reduceLeDiff, Nat.reduceLT]
  refine c_WkStep hN hC hA wo hw hn (hf h) fun O' τ1 hO' hA1 hO1 hK1 => ?_
  have gp1 : τ1.get p = some ⟨a.l q, true⟩ := hK1.get gp (by simp only [List.mem_append, not_or]; exact ⟨pO, hd⟩)
  have pO' : p ∉ O' := fun hp => by
   rcases hO' p hp with y | y
   ·exact pO y
   ·rw [gp] at y; cases y
  have ety : (a.wk.step C who A).2.1.ty = a.wk.ty := Wk.ty_step
  have k1 : Keep (p :: (O ++ N.l)) σ τ1 := hK1.mono fun i hi => List.mem_cons_of_mem _ hi
  have own1 := Wk.ob_own hO1
  generalize a.wk.step C who A = r at *
  obtain ⟨d, k', A'⟩ := r
  dsimp only at *
  have gp2 : τ1.get p = some ⟨({ a with wk := k' } : Aa).l q, true⟩ := by rw [gp1]; unfold Aa.l; dsimp only; rw [ety]
  cases d with
  | false =>
   rw [if_neg (by decide)] at hk
   simp only [w_ai_j1, w_ai_j1b, ruS, ruL, ruE, Nat.reduceAdd, reduceIte, Int.reduceLT, Int.reduceLE, Int.reduceEq, Int.reduceNeg, Int.reduceAdd, Int.reduceSub, Nat.reduceLeDiff, Nat.reduceLT]
   exact hk O' τ1 hO' hA1 ⟨⟨q, gp2, hO1⟩, pO', hd⟩ k1
  | true =>
   rw [if_pos rfl] at hk
   simp only [ldG gp1 (show sub (a.l q) 3 1 false = some (.iface a.wk.ty (.pointer (some ⟨q, 0, none⟩))) from rfl), ruS, ruL, ruE, Nat.reduceAdd, reduceIte, Int.reduceLT, Int.reduceLE, Int.reduceEq, Int.reduceNeg, Int.reduceAdd, Int.reduceSub, Nat.reduceLeDiff, Nat.reduceLT]
   rw [← ety]
   refine c_WkDone hA1 hO1 ?_
   rw [hA1.obj gp2]
   rw [stA4 (a := { a with wk := k' }) (e := k'.oE) (h := k'.oH) (v := k'.oV) (s := k'.oS) ({ a with wk := k', oE := k'.oE, oH := k'.oH, oV := k'.oV, oS := k'.oS } : Aa) hd rfl]
   rw [stAa ({ a with wk := k', oE := k'.oE, oH := k'.oH, oV := k'.oV, oS := k'.oS, pc := 2 } : Aa) hd rfl rfl (by decide) rfl]
   simp only [w_ai_j1, w_ai_j1b, ruS, ruL, ruE, Nat.reduceAdd, reduceIte, Int.reduceLT, Int.reduceLE, Int.reduceEq, Int.reduceNeg, Int.reduceAdd, Int.reduceSub, Nat.reduceLeDiff, Nat.reduceLT]
   refine behind hN hd fun τ h1 h2 h3 => hk O' τ hO' h1 ⟨⟨q, h2, Wk.ob_keep hO1 h3 fun i hi => ?_⟩, pO', hd⟩ fun i b hi hn => ?_
   ·simp only [List.mem_cons, not_or]; exact ⟨fun e => pO' (e ▸ hi), own1 i hi⟩
   ·refine h3 i b (k1 i b hi hn) fun hm => hn ?_
    rcases List.mem_cons.1 hm with rfl | hm
    ·exact List.mem_cons_self ..
    ·exact List.mem_cons_of_mem _ (List.mem_append_right _ hm)
 · -- letting go
  unfold Aa.step at hk
  rw [if_neg (by omega), if_neg (by omega)] at hk
  have bx0 : gBox 0 [.agg #[]] [] = some [] := rfl
  rw [hA.obj gp]
  simp only [s_ai, w_ai, box9, ldAa (K := _) hd (show sub (a.l q) 2 1 false = some (.int .i64 a.pc) from rfl), h, bO, s_b3, w_b3, bx0, e8, ruS, ruL, ruE, Nat.reduceAdd, reduceIte, Int.reduceLT, Int.reduceLE, Int.reduceEq, Int.reduceNeg, Int.reduceAdd, Int.reduceSub, Nat.reduceLeDiff, Nat.reduceLT]
  rw [c_Pin hwho.1 (by omega), c_Store hN (by omega) (by omega)]
  exact behind hN hd fun τ h1 h2 h3 => hk O τ (fun i hi => .inl hi) h1 ⟨⟨q, h2, Wk.ob_keep wo h3 dj⟩, pO, hd⟩ (kk h3)
end Go.Fl
namespace Go.Fl
open Go
set_option linter.unusedVariables false
set_option linter.unusedSimpArgs false
variable {N : Nm} {A B : Ar} {σ : Mem} {K : Value → Mem → Prop} {C : Cf} {who : Int}
def Wk.of (k sz h ix v old : Int) (own : Bool) : Wk := if k = 1 then .al (Am.new sz own) else if k = 2 then .dr (Dm.new h own) else .ac (Ak.new (k - 2) h ix v old own)
theorem c_of (hA : isA N A σ) {k sz h ix v old : Int} {own : Bool} (hok : 1 ≤ k ∧ k ≤ 5) (hk : ∀ q τ, σ.get q = none → (Wk.of k sz h ix v old own).ob N q [q] τ → Ext σ τ → K (.iface (Wk.of k sz h ix v old own).ty (.pointer (some ⟨q, 0, none⟩))) τ) :
  s_al [.agg #[.int .i64 k, .int .i64 sz, .int .u64 h, .int .i64 ix, .int .i64 v, .int .i64 old, .bool own]] K σ := by
 have b5 : ∀ (a b c d e : Int) (K : Value → Prop), xF (fBuild [(0, 1), (1, 1), (2, 1), (3, 1), (4, 1)] [.int .i64 0, .int .u64 0, .int .i64 0, .int .i64 0, .int .i64 0] [0, 1, 2, 3, 4]) [.int .i64 a, .int .u64 b, .int .i64 c, .int .i64 d, .int .i64 e] K = K (.agg #[.int .i64 a, .int .u64 b, .int .i64 c, .int .i64 d, .int .i64 e]) := fun _ _ _ _ _ K => nr rfl
 unfold Wk.of at hk
 simp only [s_al, w_al, box7, ruS, ruL, ruE, Nat.reduceAdd, reduceIte, Int.reduceLT, Int.reduceLE, Int.reduceEq, Int.reduceNeg, Int.reduceAdd, Int.reduceSub, Nat.reduceLeDiff, Nat.reduceLT]
 by_cases c1 : k = 1
 ·rw [if_pos c1] at hk
  simp only [c1, ruS, ruL, ruE, Nat.reduceAdd, reduceIte, Int.reduceLT, Int.reduceLE, Int.reduceEq, Int.reduceNeg, Int.reduceAdd, Int.reduceSub, Nat.reduceLeDiff, Nat.reduceLT]
  exact ob_new hA fun p τ hp ho x => hk p τ hp ho x
 ·rw [if_neg c1] at hk
  by_cases c2 : k = 2
  ·rw [if_pos c2] at hk
   simp only [c1, c2, ruS, ruL, ruE, Nat.reduceAdd, reduceIte, Int.reduceLT, Int.reduceLE, Int.reduceEq, Int.reduceNeg, Int.reduceAdd, Int.reduceSub, Nat.reduceLeDiff, Nat.reduceLT]
   exact dob_new hA fun p τ hp ho x => hk p τ hp ho x
  ·rw [if_neg c2] at hk
   simp only [c1, c2, b5, ruS, ruL, ruE, Nat.reduceAdd, reduceIte, Int.reduceLT, Int.reduceLE, Int.reduceEq, Int.reduceNeg, Int.reduceAdd, Int.reduceSub, Nat.reduceLeDiff, Nat.reduceLT]
   rw [IntWalk.i64_in (k - 3) (by omega), IntWalk.i64_in (k - 3 + 1) (by omega), show k - 3 + 1 = k - 2 by omega]
   exact aob_new hA fun p τ hp ho x => hk p τ hp ho x
theorem c_ActNew (hA : isA N A σ) {k sz h ix v old : Int} {own : Bool} (hok : okAct k v old) (hk : ∀ p q τ, σ.get p = none → σ.get q = none → TOb N p [q] (Aa.new (Wk.of k sz h ix v old own)) τ → Ext σ τ → K (.tuple #[.pointer (some ⟨p, 0, none⟩), .int .i64 0]) τ) :
  s_ak [.agg #[.int .i64 k, .int .i64 sz, .int .u64 h, .int .i64 ix, .int .i64 v, .int .i64 old, .bool own]] K σ := by
 have b8 : ∀ (t q : Nat) (K : Value → Prop), xF (fBuild [(0, 2), (2, 1), (3, 1), (4, 4)] [.int .i64 0, .int .u64 0, .int .i64 0, .nilIface, .int .i64 0, .int .u64 0, .int .i64 0, .int .i64 0] [2]) [.iface t (.pointer (some ⟨q, 0, none⟩))] K =
   K (.agg #[.int .i64 0, .int .u64 0, .int .i64 0, .iface t (.pointer (some ⟨q, 0, none⟩)), .int .i64 0, .int .u64 0, .int .i64 0, .int .i64 0]) := fun _ _ K => nr rfl
 simp only [s_ak, w_ak, box7, sub7, c_ActCheck, hok, ruS, ruL, ruE, Nat.reduceAdd, reduceIte, Int.reduceLT, Int.reduceLE, Int.reduceEq, Int.reduceNeg, Int.reduceAdd, Int.reduceSub, Nat.reduceLeDiff, Nat.reduceLT]
 refine c_of hA hok.1 fun q τ hq ho x => ?_
 rw [b8]
 refine hBox_i (cs := (Aa.new (Wk.of k sz h ix v old own)).l q) rfl fun p τ2 hp gp x2 => ?_
 have hA1 := hA.ext x
 have hqn : τ.get q ≠ none := by
  revert ho
  generalize Wk.of k sz h ix v old own = wk
  intro ho
  cases wk with
  | al m => obtain ⟨⟨_, _, g, _⟩, _⟩ := ho; rw [g]; simp
  | dr m => obtain ⟨⟨_, _, g, _⟩, _⟩ := ho; rw [g]; simp
  | ac m => obtain ⟨⟨_, g, _⟩, _⟩ := ho; rw [g]; simp
 refine hk p q τ2 (x.none hp) hq ⟨⟨q, gp, Wk.ob_keep (L := []) ho x2.keep fun _ _ => by simp⟩, fun e => ?_, hA1.new hp⟩ (x.trans x2)
 rw [List.mem_singleton.1 e] at hp
 exact hqn hp
theorem TOb.done {p : Nat} {O : List Nat} {a : Aa} (h : TOb N p O a σ) (hk : K (.agg #[.int .i64 a.oE, .int .u64 a.oH, .int .i64 a.oV, .int .i64 a.oS]) σ) : s_ah [.pointer (some ⟨p, 0, none⟩)] K σ := by
 obtain ⟨⟨q, gp, _⟩, _⟩ := h
 have gU : ∀ {k : Nat} {x y z w : Int}, gStore 4 [.pointer (some ⟨k, 0, some 0⟩), .agg #[.int .i64 x, .int .u64 y, .int .i64 z, .int .i64 w]] [.int .i64 0, .int .u64 0, .int .i64 0, .int .i64 0] = some [.int .i64 x, .int .u64 y, .int .i64 z, .int .i64 w] := fun {_ _ _ _ _} => rfl
 simp only [s_ah, w_ah, ldG gp (show sub (a.l q) 4 4 true = some (.agg #[.int .i64 a.oE, .int .u64 a.oH, .int .i64 a.oV, .int .i64 a.oS]) from rfl), gU, sub4, ruS, ruL, ruE, Nat.reduceAdd, reduceIte, Int.reduceLT, Int.reduceLE, Int.reduceEq, Int.reduceNeg, Int.reduceAdd, Int.reduceSub, Nat.reduceLeDiff, Nat.reduceLT]
 exact hk
end Go.Fl
namespace Go.Fl
open Go
set_option linter.unusedVariables false
set_option linter.unusedSimpArgs false
variable {N : Nm} {A B : Ar} {σ : Mem} {K : Value → Mem → Prop} {C : Cf} {who : Int}
def Ar.pin (A : Ar) (who : Int) : Ar := ((((((A.by who).load 0).by who).store (6 + who) (IntKind.u64.wrap (A.w 0 + 1))).by who).load 0)
def Ar.out (A : Ar) (who : Int) : Ar := (A.by who).store (6 + who) 0
theorem Aa.st_wk {a : Aa} (e : a.pc = 1) (c : (a.wk.step C who A).1 = true) : a.step C who A = (false, { a with wk := (a.wk.step C who A).2.1, oE := (a.wk.step C who A).2.1.oE, oH := (a.wk.step C who A).2.1.oH, oV := (a.wk.step C who A).2.1.oV, oS := (a.wk.step C who A).2.1.oS, pc := 2 }, (a.wk.step C who A).2.2) := by
 unfold Aa.step; rw [if_neg (by omega), if_pos e, if_pos c]
theorem Aa.st_go {a : Aa} (e : a.pc = 1) (c : ¬ (a.wk.step C who A).1 = true) : a.step C who A = (false, { a with wk := (a.wk.step C who A).2.1 }, (a.wk.step C who A).2.2) := by
 unfold Aa.step; rw [if_neg (by omega), if_pos e, if_neg c]
theorem Aa.st_out {a : Aa} (e : a.pc = 2) : a.step C who A = (true, a, A.out who) := by
 unfold Aa.step; rw [if_neg (by omega), if_neg (by omega)]; rfl
end Go.Fl
namespace Go.Fl
open Go
set_option linter.unusedVariables false
set_option linter.unusedSimpArgs false
variable {N : Nm} {A B : Ar} {σ : Mem} {K : Value → Mem → Prop} {C : Cf} {who : Int}
theorem pin_w : (A.pin who).w = upd A.w (6 + who) (IntKind.u64.wrap (A.w 0 + 1)) := rfl
theorem out_w : (A.out who).w = upd A.w (6 + who) 0 := rfl
theorem pin_far (hC : C.ok) (hwho : 0 ≤ who ∧ who < C.T) {u : Int → Int} (hu : ∀ j, 0 ≤ j → j < C.C → 0 ≤ u j) {a : Int} (h : a = 1 ∨ (2 ≤ a ∧ a < 6) ∨ (∃ s, 0 ≤ s ∧ s < C.S ∧ a = C.slot s + 1) ∨ (∃ j, 0 ≤ j ∧ j < C.C ∧ (a = C.chunk j ∨ a = C.chunk j + 1)) ∨ (∃ j i, 0 ≤ j ∧ j < C.C ∧ u j ≤ i ∧ i < C.W ∧ a = C.base j + i)) : a ≠ 6 + who := by
 have hT := hC.T; have hS := hC.S; have hC3 := hC.C
 rcases h with h | h | ⟨s, s0, s1, h⟩ | ⟨j, j0, j1, h⟩ | ⟨j, i, j0, j1, i0, i1, h⟩
 ·omega
 ·omega
 ·unfold Cf.slot at h; omega
 ·unfold Cf.chunk at h; omega
 ·have := hu j j0 j1
  have hm := mulW hC j0 (by omega)
  unfold Cf.base at h; omega
theorem Bg.aw_pin {b : Bg} (hC : C.ok) (hwho : 0 ≤ who ∧ who < C.T) {w : Int → Int} {x : Int} (h : b.aw C w) : b.aw C (upd w (6 + who) x) :=
 Aw.keep hC h fun a ha => upd_ne _ _ (pin_far hC hwho (fun j j0 j1 => Aw.u0 h j0 j1) ha)
theorem Pa.pin {b : Int} (hC : C.ok) (hwho : 0 ≤ who ∧ who < C.T) (h : Pa C A b) (hb : b < 9000000000000000000) : Pa C (A.pin who) (b + 3) := by
 have h1 := (h.ok.by (who := who)).load (a := 0) (by omega)
 have h2 := (h1.by (who := who)).store (a := 6 + who) (by omega) (wrap_in (A.w 0 + 1))
 have h3 := (h2.by (who := who)).load (a := 0) (by omega)
 refine ⟨?_, h.n, fun c c0 c3 => ?_⟩
 ·rw [show b + 3 = b + 1 + 1 + 1 by omega]; exact h3
 ·rw [pin_w, upd_ne _ _ (by omega)]; exact h.op c c0 c3
theorem Pa.out {b : Int} (hC : C.ok) (hwho : 0 ≤ who ∧ who < C.T) (h : Pa C A b) (hb : b < 9000000000000000000) : Pa C (A.out who) (b + 1) := by
 refine ⟨(h.ok.by (who := who)).store (a := 6 + who) (by omega) ⟨by decide, by decide⟩, h.n, fun c c0 c3 => ?_⟩
 rw [out_w, upd_ne _ _ (by omega)]; exact h.op c c0 c3
end Go.Fl
namespace Go.Fl
open Go
set_option linter.unusedVariables false
set_option linter.unusedSimpArgs false
variable {N : Nm} {A B : Ar} {σ : Mem} {K : Value → Mem → Prop} {C : Cf} {who : Int}
theorem Wk.of3 {k sz h ix v old : Int} {own : Bool} (hk : 3 ≤ k) : Wk.of k sz h ix v old own = .ac (Ak.new (k - 2) h ix v old own) := by
 unfold Wk.of; rw [if_neg (by omega), if_neg (by omega)]
end Go.Fl
namespace Go.Fl
open Go
set_option linter.unusedVariables false
set_option linter.unusedSimpArgs false
variable {N : Nm} {A B : Ar} {σ : Mem} {K : Value → Mem → Prop} {C : Cf} {who : Int}
def updO (f : Int → Option Do) (a : Int) (v : Option Do) : Int → Option Do := fun i => if i = a then v else f i
theorem updO_same {f : Int → Option Do} {a : Int} {v : Option Do} : updO f a v a = v := if_pos rfl
theorem updO_ne {f : Int → Option Do} {a i : Int} {v : Option Do} (h : i ≠ a) : updO f a v i = f i := if_neg h
def prt (ob : Int → Option Do) (j s : Int) : Int := match ob s with
 | some d => if d.j = j then d.rm else 0
 | none => 0
theorem prt_nn {ob : Int → Option Do} {j s : Int} : 0 ≤ prt ob j s := by
 unfold prt
 split
 ·rename_i d _; split
  ·have := d.rm0; omega
  ·exact Int.le_refl _
 ·exact Int.le_refl _
theorem prt_upd {ob : Int → Option Do} {j s : Int} {v : Option Do} : prt (updO ob s v) j = upd (prt ob j) s (match v with | some d => if d.j = j then d.rm else 0 | none => 0) := by
 funext t
 unfold prt upd updO
 by_cases e : t = s
 ·rw [if_pos e, if_pos e]
 ·rw [if_neg e, if_neg e]
structure Wo (C : Cf) (b : Bg) (ob : Int → Option Do) (M : Int) (w : Int → Int) : Prop where
 aw : b.aw C w
 lv : b.lvM C M
 gen : ∀ s, 0 ≤ s → s < C.S → 1 ≤ slG (w (C.slot s)) ∧ slG (w (C.slot s)) ≤ C.G
 no : ∀ s, 0 ≤ s → s < C.S → ob s = none → slS (w (C.slot s)) = 0 ∨ slS (w (C.slot s)) = 3
 ok : ∀ s d, 0 ≤ s → s < C.S → ob s = some d → d.ok C b w ∧ d.s = s ∧ slS d.ws = 1 ∧ ∀ x, 0 ≤ x → x < d.z → ceF (w (d.a C + 1 + x)) = false
 ne : ∀ s t d e, 0 ≤ s → s < C.S → 0 ≤ t → t < C.S → ob s = some d → ob t = some e → s ≠ t → d.j ≠ e.j ∨ d.i + d.rm ≤ e.i ∨ e.i + e.rm ≤ d.i
 sm : ∀ j, 0 ≤ j → j < C.C → sumN (prt ob j) C.S.toNat ≤ b.lv j
def SameO (C : Cf) (ob : Int → Option Do) (s : Int) (w w' : Int → Int) : Prop := ∀ t e, 0 ≤ t → t < C.S → t ≠ s → ob t = some e → ∀ x, 0 ≤ x → x < e.z → w' (e.a C + 1 + x) = w (e.a C + 1 + x)
section
variable {b : Bg} {ob : Int → Option Do} {M : Int} {w w' : Int → Int}
theorem Wo.at' (hC : C.ok) (h : Wo C b ob M w) {s : Int} {d : Do} (s0 : 0 ≤ s) (s1 : s < C.S) (e : ob s = some d) {x : Int} (x0 : 0 ≤ x) (x1 : x ≤ d.z) :
  d.a C + x = C.base d.j + (d.i + x) ∧ (0 ≤ d.j ∧ d.j < C.C) ∧ 0 ≤ d.i + x ∧ d.i + x < b.u d.j ∧ d.i + x < C.W := by
 have o := (h.ok s d s0 s1 e).1
 have av := d.av hC o ⟨_, h.aw⟩
 have := o.i
 refine ⟨by unfold Do.a; omega, o.j, by omega, by omega, by omega⟩
theorem Wo.keep (hC : C.ok) (h : Wo C b ob M w) (haw : b.aw C w') (hs : ∀ s, 0 ≤ s → s < C.S → w' (C.slot s) = w (C.slot s))
  (hw : ∀ s d, 0 ≤ s → s < C.S → ob s = some d → ∀ x, 0 ≤ x → x ≤ d.z → w' (d.a C + x) = w (d.a C + x)) : Wo C b ob M w' := by
 refine ⟨haw, h.lv, fun s s0 s1 => by rw [hs s s0 s1]; exact h.gen s s0 s1, fun s s0 s1 e => by rw [hs s s0 s1]; exact h.no s s0 s1 e, fun s d s0 s1 e => ?_, h.ne, h.sm⟩
 obtain ⟨o, e1, e2, e3⟩ := h.ok s d s0 s1 e
 have av := d.av hC o ⟨_, h.aw⟩
 refine ⟨o.keep o.sF (by rw [e1]; exact hs s s0 s1) (by have := hw s d s0 s1 e 0 (by omega) (by omega); rwa [Int.add_zero] at this) (Int.le_refl _) o.lv, e1, e2, fun x x0 x1 => ?_⟩
 rw [show d.a C + 1 + x = d.a C + (1 + x) by omega, hw s d s0 s1 e (1 + x) (by omega) (by omega), show d.a C + (1 + x) = d.a C + 1 + x by omega]
 exact e3 x x0 x1
theorem Wo.apart (hC : C.ok) (h : Wo C b ob M w) {s t : Int} {d e : Do} (s0 : 0 ≤ s) (s1 : s < C.S) (t0 : 0 ≤ t) (t1 : t < C.S) (hd : ob s = some d) (he : ob t = some e) (hst : s ≠ t) {x y : Int} (x0 : 0 ≤ x) (x1 : x ≤ d.z) (y0 : 0 ≤ y) (y1 : y ≤ e.z) : d.a C + x ≠ e.a C + y := by
 obtain ⟨q0, q1, q2, q3, q4⟩ := h.at' hC s0 s1 hd x0 x1
 obtain ⟨r0, r1, r2, r3, r4⟩ := h.at' hC t0 t1 he y0 y1
 intro q
 rw [q0, r0] at q
 obtain ⟨p1, p2⟩ := base_inj hC q1.1 q1.2 q2 q4 r1.1 r1.2 r2 r4 q
 have z1 := (h.ok s d s0 s1 hd).1.z
 have z2 := (h.ok t e t0 t1 he).1.z
 rcases h.ne s t d e s0 s1 t0 t1 hd he hst with n | n | n
 ·exact n p1
 ·unfold Do.rm at n; omega
 ·unfold Do.rm at n; omega
theorem Wo.pin (hC : C.ok) (hwho : 0 ≤ who ∧ who < C.T) {v : Int} (h : Wo C b ob M w) : Wo C b ob M (upd w (6 + who) v) := by
 have hT := hC.T
 refine h.keep hC (Bg.aw_pin hC hwho h.aw) (fun s s0 s1 => upd_ne _ _ (by unfold Cf.slot; omega)) fun s d s0 s1 e x x0 x1 => upd_ne _ _ ?_
 obtain ⟨q0, q1, q2, q3, q4⟩ := h.at' hC s0 s1 e x0 x1
 have := base_ge hC q1.1 q1.2 q2
 have := hC.S; have := hC.C
 omega
theorem Wo.drop (hC : C.ok) (h : Wo C b ob M w) {s : Int} {d : Do} (s0 : 0 ≤ s) (s1 : s < C.S) (hs : ob s = some d) (fr : d.fr C w w') (sl : w' (C.slot d.s) = d.nx C)
  (aw : Bg.aw { b.less d.j (roomOf (classOf d.z)) with F := if C.G ≤ d.ge then b.F else d.s :: b.F } C w') :
  Wo C { b.less d.j (roomOf (classOf d.z)) with F := if C.G ≤ d.ge then b.F else d.s :: b.F } (updO ob s none) M w' ∧ SameO C ob s w w' := by
 obtain ⟨o, e1, e2, e3⟩ := h.ok s d s0 s1 hs
 have hge := h.gen s s0 s1
 have hG := hC.G
 have ege : slG (w (C.slot s)) = d.ge := by rw [← e1, o.ws, o.sg]
 rw [ege] at hge
 have av := d.av hC o ⟨_, h.aw⟩
 have hT := hC.T
 have hS := hC.S
 have hCC := hC.C
 have wS : ∀ t, 0 ≤ t → t < C.S → t ≠ s → w' (C.slot t) = w (C.slot t) := fun t t0 t1 ht => by
  have hb := (h.at' hC s0 s1 hs (x := 0) (by omega) (by omega))
  have hb2 := base_ge hC hb.2.1.1 hb.2.1.2 hb.2.2.1
  have hj := o.j
  refine fr _ (by rw [e1]; unfold Cf.slot; omega) (by unfold Cf.slot; omega) (by rw [e1]; unfold Cf.slot; omega) (by unfold Cf.slot Cf.chunk; omega) (by unfold Cf.slot; omega)
 have wW : ∀ t e, 0 ≤ t → t < C.S → t ≠ s → ob t = some e → ∀ x, 0 ≤ x → x ≤ e.z → w' (e.a C + x) = w (e.a C + x) := fun t e t0 t1 ts he x x0 x1 => by
  have hb := h.at' hC t0 t1 he x0 x1
  have hb2 := base_ge hC hb.2.1.1 hb.2.1.2 hb.2.2.1
  have hj := o.j
  refine fr _ (by rw [e1, hb.1]; unfold Cf.slot; omega) (by rw [hb.1]; omega) (by rw [e1, hb.1]; unfold Cf.slot; omega) (by rw [hb.1]; unfold Cf.chunk; omega) fun q => ?_
  exact h.apart hC t0 t1 s0 s1 he hs ts (y := e.a C + x - d.a C) x0 x1 (by omega) (by omega) (by omega)
 have wG : slS (w' (C.slot s)) = (if C.G ≤ d.ge then 3 else 0) ∧ slG (w' (C.slot s)) = (if C.G ≤ d.ge then d.ge else d.ge + 1) := by
  rw [← e1, sl]; unfold Do.nx
  split
  ·exact ⟨(sl_put (by decide) (by decide) (by omega) (by decide)).1, (sl_put (by decide) (by decide) (by omega) (by decide)).2.2.1⟩
  ·exact ⟨(sl_put (by decide) (by decide) (by omega) (by decide)).1, (sl_put (by decide) (by decide) (by omega) (by decide)).2.2.1⟩
 have sml : ∀ j, sumN (prt (updO ob s none) j) C.S.toNat = sumN (prt ob j) C.S.toNat - (if d.j = j then d.rm else 0) := fun j => by
  rw [prt_upd, sumN_upd s0 (by omega)]
  have : prt ob j s = if d.j = j then d.rm else 0 := by unfold prt; rw [hs]
  rw [this]; dsimp only; omega
 have lK : ∀ t e, updO ob s none t = some e → t ≠ s ∧ ob t = some e := fun t e he => by
  by_cases q : t = s
  ·subst q; rw [updO_same] at he; cases he
  ·rw [updO_ne q] at he; exact ⟨q, he⟩
 have oj := o.j
 have smk := sumN_le (f := prt ob d.j) (n := C.S.toNat) (fun _ => prt_nn) s0 (by omega)
 have smj := h.sm _ oj.1 oj.2
 have pk : prt ob d.j s = d.rm := by unfold prt; rw [hs]; simp
 rw [pk] at smk
 have rmk := d.rm0
 refine ⟨⟨aw, ⟨fun j j0 j1 => ?_⟩, fun t t0 t1 => ?_, fun t t0 t1 he => ?_, fun t e t0 t1 he => ?_, fun t u e f t0 t1 u0 u1 he hf htu => ?_, fun j j0 j1 => ?_⟩, fun t e t0 t1 ts he x x0 x1 => ?_⟩
 ·have := h.lv.lv j j0 j1
  show 0 ≤ upd b.lv d.j (b.lv d.j - d.rm) j ∧ upd b.lv d.j (b.lv d.j - d.rm) j ≤ _
  unfold upd; split
  ·rename_i q; rw [q] at this; omega
  ·omega
 ·by_cases e : t = s
  ·subst e; rw [wG.2]; split <;> omega
  ·rw [wS t t0 t1 e]; exact h.gen t t0 t1
 ·by_cases e : t = s
  ·subst e; rw [wG.1]; split
   ·exact .inr rfl
   ·exact .inl rfl
  ·rw [updO_ne e] at he; rw [wS t t0 t1 e]; exact h.no t t0 t1 he
 ·obtain ⟨ts, he'⟩ := lK t e he
  obtain ⟨o', f1, f2, f3⟩ := h.ok t e t0 t1 he'
  have av' := e.av hC o' ⟨_, h.aw⟩
  refine ⟨o'.keep ?_ (by rw [f1]; exact wS t t0 t1 ts) (by have := wW t e t0 t1 ts he' 0 (by omega) (by omega); rwa [Int.add_zero] at this) (Int.le_refl _) ?_, f1, f2, fun x x0 x1 => ?_⟩
  ·have : e.s ∉ d.s :: b.F := by
    simp only [List.mem_cons, not_or]; exact ⟨by rw [f1, e1]; exact ts, o'.sF⟩
   show e.s ∉ (if C.G ≤ d.ge then b.F else d.s :: b.F)
   split
   ·exact o'.sF
   ·exact this
  ·show _ ≤ upd b.lv d.j (b.lv d.j - d.rm) e.j
   unfold upd; split
   ·rename_i q
    have s1' := sumN_le (f := prt (updO ob s none) d.j) (n := C.S.toNat) (fun _ => prt_nn) t0 (by omega)
    rw [sml, if_pos rfl] at s1'
    have : prt (updO ob s none) d.j t = e.rm := by unfold prt; rw [he]; simp [q]
    rw [this] at s1'
    unfold Do.rm at *
    omega
   ·exact o'.lv
  ·rw [show e.a C + 1 + x = e.a C + (1 + x) by omega, wW t e t0 t1 ts he' (1 + x) (by omega) (by omega), show e.a C + (1 + x) = e.a C + 1 + x by omega]
   exact f3 x x0 x1
 ·exact h.ne t u e f t0 t1 u0 u1 (lK t e he).2 (lK u f hf).2 htu
 ·show _ ≤ upd b.lv d.j (b.lv d.j - d.rm) j
  rw [sml]
  have := h.sm j j0 j1
  by_cases q : d.j = j
  ·subst q; rw [upd_same, if_pos rfl]; omega
  ·rw [upd_ne _ _ fun e => q e.symm, if_neg q]; omega
 ·rw [show e.a C + 1 + x = e.a C + (1 + x) by omega]
  exact wW t e t0 t1 ts he (1 + x) (by omega) (by omega)
theorem Wo.lay (hC : C.ok) (h : Wo C b ob M w) {s : Int} {d : Do} (s0 : 0 ≤ s) (s1 : s < C.S) (hs : ob s = some d) {x v : Int} (x0 : 0 ≤ x) (x1 : x < d.z) (hv : 0 ≤ v ∧ v ≤ 1099511627775) :
  Wo C b ob M (upd w (d.a C + 1 + x) (putCell v false 0)) ∧ SameO C ob s w (upd w (d.a C + 1 + x) (putCell v false 0)) := by
 obtain ⟨q0, q1, q2, q3, q4⟩ := h.at' hC s0 s1 hs (x := 1 + x) (by omega) (by omega)
 have ea : d.a C + 1 + x = C.base d.j + (d.i + (1 + x)) := by omega
 have hb := base_ge hC q1.1 q1.2 q2
 have hT := hC.T
 have hS := hC.S
 have wS : ∀ t, 0 ≤ t → t < C.S → upd w (d.a C + 1 + x) (putCell v false 0) (C.slot t) = w (C.slot t) := fun t t0 t1 => upd_ne _ _ (by rw [ea]; unfold Cf.slot; have := hC.C; omega)
 have wW : ∀ t e, 0 ≤ t → t < C.S → t ≠ s → ob t = some e → ∀ y, 0 ≤ y → y ≤ e.z → upd w (d.a C + 1 + x) (putCell v false 0) (e.a C + y) = w (e.a C + y) := fun t e t0 t1 ts he y y0 y1 => by
  refine upd_ne _ _ fun q => h.apart hC t0 t1 s0 s1 he hs ts (y := 1 + x) y0 y1 (by omega) (by omega) (by omega)
 refine ⟨⟨by rw [ea]; exact Aw.word hC h.aw q1.1 q1.2 q2 q3 q4, h.lv, fun t t0 t1 => by rw [wS t t0 t1]; exact h.gen t t0 t1, fun t t0 t1 e => by rw [wS t t0 t1]; exact h.no t t0 t1 e, fun t e t0 t1 he => ?_, h.ne, h.sm⟩, fun t e t0 t1 ts he y y0 y1 => ?_⟩
 ·obtain ⟨o, f1, f2, f3⟩ := h.ok t e t0 t1 he
  have av := e.av hC o ⟨_, h.aw⟩
  by_cases q : t = s
  ·subst q; rw [hs] at he; cases he
   refine ⟨o.keep o.sF (by rw [f1]; exact wS t t0 t1) (upd_ne _ _ (by omega)) (Int.le_refl _) o.lv, f1, f2, fun y y0 y1 => ?_⟩
   by_cases e : y = x
   ·subst e; rw [upd_same]; exact (ce_put (f := false) (n := 0) hv (by decide)).2.1
   ·rw [upd_ne _ _ (by omega)]; exact f3 y y0 y1
  ·refine ⟨o.keep o.sF (by rw [f1]; exact wS t t0 t1) (by have := wW t e t0 t1 q he 0 (by omega) (by omega); rwa [Int.add_zero] at this) (Int.le_refl _) o.lv, f1, f2, fun y y0 y1 => ?_⟩
   rw [show e.a C + 1 + y = e.a C + (1 + y) by omega, wW t e t0 t1 q he (1 + y) (by omega) (by omega), show e.a C + (1 + y) = e.a C + 1 + y by omega]
   exact f3 y y0 y1
 ·rw [show e.a C + 1 + y = e.a C + (1 + y) by omega]
  exact wW t e t0 t1 ts he (1 + y) (by omega) (by omega)
def Hit (C : Cf) (ob : Int → Option Do) (n : Int) (own : Bool) (s : Int) (d : Do) : Prop := (0 ≤ s ∧ s < C.S) ∧ ob s = some d ∧ d.n = n ∧ d.own = own
theorem Wo.miss (hC : C.ok) (h : Wo C b ob M w) {n : Int} {own : Bool} (n0 : 0 ≤ n ∧ n < 18446744073709551616) (hm : ∀ s d, ¬ Hit C ob n own s d) : NoDrop C w n own := by
 by_cases h1 : hdOk n = true
 ·have hb := hdSl_bd n0.1
  by_cases h2 : hdSl n < C.S
  ·refine .inr ⟨⟨h1, h2⟩, ?_⟩
   cases e : ob (hdSl n) with
   | none =>
    refine .inl fun hl => ?_
    have h5 := h.no _ hb.1.1 h2 e
    have h6 := hl.1
    omega
   | some d =>
    obtain ⟨o, e1, e2, e3⟩ := h.ok _ d hb.1.1 h2 e
    by_cases g : d.ge = hdGe n
    ·have dn : d.n = n := by
      have q1 := o.hok
      have q2 : hdSl d.n = hdSl n := e1
      have q3 : hdGe d.n = hdGe n := g
      have q4 := o.n
      unfold hdSl at q2
      unfold hdGe at q3
      rw [q1, h1] at q2 q3
      simp only [if_true] at q2 q3
      omega
     have av := d.av hC o ⟨_, h.aw⟩
     have ews : w (C.slot (hdSl n)) = d.ws := by rw [← e1]; exact o.ws
     refine .inr ⟨⟨by rw [ews, e2]; exact .inl rfl, by rw [ews, o.sg]; exact g⟩, by rw [ews, o.sa]; omega, ?_⟩
     rw [ews, o.sa, o.hd.2]
     exact fun q => hm (hdSl n) d ⟨⟨hb.1.1, h2⟩, e, dn, q⟩
    ·refine .inl fun hl => g ?_
     have ews : w (C.slot (hdSl n)) = d.ws := by rw [← e1]; exact o.ws
     have := hl.2
     rw [ews, o.sg] at this; exact this
  ·exact .inl (.inr (by omega))
 ·exact .inl (.inl (by simpa using h1))
theorem Frsh.wo (hC : C.ok) (h : Frsh N C A) : Wo C (Bg.fr C) (fun _ => none) 0 A.w := by
 have hw0 : ∀ s, 0 ≤ s → s < C.S → A.w (C.slot s) = putSlot 0 0 1 0 := by
  intro s s0 s1
  rw [h.w]
  have hT := hC.T
  unfold Cf.w0 Cf.fr
  rw [if_neg (by unfold Cf.slot; omega), if_neg (by unfold Cf.slot; omega), if_pos (by unfold Cf.slot; omega), if_pos (by unfold Cf.slot; omega)]
 have hG := hC.G
 refine ⟨h.aw hC, fr_lv, fun s s0 s1 => ?_, fun s s0 s1 _ => ?_, fun s d _ _ e => (by cases e), fun s t d e _ _ _ _ hd => (by cases hd), fun j j0 j1 => ?_⟩
 ·rw [hw0 s s0 s1, (sl_put (by decide) (by decide) (by decide) (by decide)).2.2.1]; omega
 ·rw [hw0 s s0 s1, (sl_put (by decide) (by decide) (by decide) (by decide)).1]; exact .inl rfl
 ·have : ∀ n, sumN (prt (fun _ => none) j) n = 0 := by
   intro n
   induction n with
   | zero => rfl
   | succ n ih => show sumN _ n + prt (fun _ => none) j n = 0; rw [ih]; rfl
  rw [this]; exact Int.le_refl _
end
end Go.Fl
namespace Go.Fl
open Go
set_option linter.unusedVariables false
set_option linter.unusedSimpArgs false
variable {N : Nm} {A B : Ar} {σ : Mem} {K : Value → Mem → Prop} {C : Cf} {who : Int}
theorem Ar.ok.out_s {b : Int} (h : A.ok b) (hb : b < 9000000000000000000) : (A.out who).s = A.s + 1 := (h.by (who := who)).s1 (by omega)
theorem SameO.pin (hC : C.ok) (hwho : 0 ≤ who ∧ who < C.T) {b : Bg} {ob : Int → Option Do} {M s v : Int} {w : Int → Int} (h : Wo C b ob M w) : SameO C ob s w (upd w (6 + who) v) ∧ SameO C ob s (upd w (6 + who) v) w := by
 have key : ∀ t e, 0 ≤ t → t < C.S → ob t = some e → ∀ x, 0 ≤ x → x < e.z → upd w (6 + who) v (e.a C + 1 + x) = w (e.a C + 1 + x) := fun t e t0 t1 he x x0 x1 => by
  refine upd_ne _ _ ?_
  obtain ⟨q0, q1, q2, q3, q4⟩ := h.at' hC t0 t1 he (x := 1 + x) (by omega) (by omega)
  have := base_ge hC q1.1 q1.2 q2
  have := hC.S; have := hC.C
  omega
 exact ⟨fun t e t0 t1 _ he x x0 x1 => key t e t0 t1 he x x0 x1, fun t e t0 t1 _ he x x0 x1 => (key t e t0 t1 he x x0 x1).symm⟩
theorem SameO.trans {ob : Int → Option Do} {s : Int} {w w' w'' : Int → Int} (h : SameO C ob s w w') (h' : SameO C ob s w' w'') : SameO C ob s w w'' :=
 fun t e t0 t1 ts he x x0 x1 => (h' t e t0 t1 ts he x x0 x1).trans (h t e t0 t1 ts he x x0 x1)
theorem SameO.all {ob : Int → Option Do} {s : Int} {w w' : Int → Int} (h : SameO C ob (-1) w w') : SameO C ob s w w' := fun t e t0 t1 _ he x x0 x1 => h t e t0 t1 (by omega) he x x0 x1
theorem SameO.mono {ob ob' : Int → Option Do} {s : Int} {w w' : Int → Int} (h : SameO C ob s w w') (ho : ∀ t, t ≠ s → ob' t = ob t) : SameO C ob' s w w' := fun t e t0 t1 ts he x x0 x1 => h t e t0 t1 ts (by rw [← ho t ts]; exact he) x x0 x1
end Go.Fl
namespace Go.Fl
open Go
set_option linter.unusedVariables false
set_option linter.unusedSimpArgs false
variable {N : Nm} {A B : Ar} {σ : Mem} {K : Value → Mem → Prop} {C : Cf} {who : Int}
theorem act7 {l : List Value} (h : FlatL [some .i64, some .i64, some .u64, some .i64, some .i64, some .i64, none] l) : ∃ k sz h' ix v old o, l = [.int .i64 k, .int .i64 sz, .int .u64 h', .int .i64 ix, .int .i64 v, .int .i64 old, .bool o] ∧ 0 ≤ h' ∧ h' < 18446744073709551616 := by
 cases h with | cons h1 h =>
 cases h with | cons h2 h =>
 cases h with | cons h3 h =>
 cases h with | cons h4 h =>
 cases h with | cons h5 h =>
 cases h with | cons h6 h =>
 cases h with | cons h7 h =>
 cases h
 obtain ⟨a, rfl, _⟩ := h1
 obtain ⟨b, rfl, _⟩ := h2
 obtain ⟨c, rfl, w⟩ := h3
 obtain ⟨d, rfl, _⟩ := h4
 obtain ⟨e, rfl, _⟩ := h5
 obtain ⟨f, rfl, _⟩ := h6
 obtain ⟨g, rfl⟩ := h7
 have : 0 ≤ c ∧ c ≤ 18446744073709551615 := by simpa [Lit.wf, IntKind.min, IntKind.max, IntKind.signed, IntKind.bits] using w
 exact ⟨a, b, c, d, e, f, g, rfl, by omega, by omega⟩
section
variable {q : Nat} {k sz h ix v old x : Int} {own y : Bool}
theorem gA7 {a b c d e f : Int} {g : Bool} : gStore 7 [.pointer (some ⟨q, 0, some 0⟩), .agg #[.int .i64 k, .int .i64 sz, .int .u64 h, .int .i64 ix, .int .i64 v, .int .i64 old, .bool own]] [.int .i64 a, .int .i64 b, .int .u64 c, .int .i64 d, .int .i64 e, .int .i64 f, .bool g] = some [.int .i64 k, .int .i64 sz, .int .u64 h, .int .i64 ix, .int .i64 v, .int .i64 old, .bool own] := rfl
theorem gA0 : gStore 1 [.pointer (some ⟨q, 0, some 0⟩), .int .i64 x] [.int .i64 k, .int .i64 sz, .int .u64 h, .int .i64 ix, .int .i64 v, .int .i64 old, .bool own] = some [.int .i64 x, .int .i64 sz, .int .u64 h, .int .i64 ix, .int .i64 v, .int .i64 old, .bool own] := rfl
theorem gA4 : gStore 1 [.pointer (some ⟨q, 4, some 0⟩), .int .i64 x] [.int .i64 k, .int .i64 sz, .int .u64 h, .int .i64 ix, .int .i64 v, .int .i64 old, .bool own] = some [.int .i64 k, .int .i64 sz, .int .u64 h, .int .i64 ix, .int .i64 x, .int .i64 old, .bool own] := rfl
theorem gA5 : gStore 1 [.pointer (some ⟨q, 5, some 0⟩), .int .i64 x] [.int .i64 k, .int .i64 sz, .int .u64 h, .int .i64 ix, .int .i64 v, .int .i64 old, .bool own] = some [.int .i64 k, .int .i64 sz, .int .u64 h, .int .i64 ix, .int .i64 v, .int .i64 x, .bool own] := rfl
def cutK (k : Int) : Int := 1 + (k.tmod 5 + 5).tmod 5
theorem cutK_bd (k : Int) : 1 ≤ cutK k ∧ cutK k ≤ 5 := by
 have := (pickN k (show (0 : Int) < 5 by decide) (by decide)).2; unfold cutK; omega
theorem c_cut : s_a8 [.agg #[.int .i64 k, .int .i64 sz, .int .u64 h, .int .i64 ix, .int .i64 v, .int .i64 old, .bool own]] K σ = K (.agg #[.int .i64 (cutK k), .int .i64 sz, .int .u64 h, .int .i64 ix, .int .i64 (v % 1099511627776), .int .i64 (old % 1099511627776), .bool own]) σ := by
 obtain ⟨pk1, pk2, pk3⟩ := pickN k (show (0 : Int) < 5 by decide) (by decide)
 have ec : IntKind.i64.wrap (1 + (k.tmod 5 + 5).tmod 5) = cutK k := IntWalk.i64_in _ (by omega)
 have t5 : (5 : Int) ≠ 0 := by decide
 simp only [s_a8, w_a8, box7, sub7, xRem t5, pk1, ec, gA0, gA4, gA5, gA7, andI40, ruS, ruL, ruE, Nat.reduceAdd, reduceIte, Int.reduceLT, Int.reduceLE, Int.reduceEq, Int.reduceNeg, Int.reduceAdd, Int.reduceSub, Nat.reduceLeDiff, Nat.reduceLT]
end
end Go.Fl
namespace Go.Fl
open Go
set_option linter.unusedVariables false
set_option linter.unusedSimpArgs false
variable {N : Nm} {A B : Ar} {σ : Mem} {K : Value → Mem → Prop} {C : Cf} {who : Int}
theorem Tch.pin (hC : C.ok) (hwho : 0 ≤ who ∧ who < C.T) {m : Am} {r : Bool × Am × Ar} {a : Int} (h : Tch C A m r a) (hf : m.fit C A) (hs : m.a.pc = 4 ∨ m.a.pc = 6 → C.base 0 ≤ m.a.sa) : r.2.2.w (6 + who) = A.w (6 + who) := by
 have hT := hC.T; have hS := hC.S; have hC3 := hC.C
 refine h.w _ ?_
 rcases h.kind with ⟨_, e | ⟨s, s0, s1, e⟩⟩ | ⟨p, e, _⟩ | ⟨p, e | e⟩ | ⟨p, e⟩ | ⟨p, e⟩ | ⟨p, e⟩
 ·omega
 ·unfold Cf.slot at e; omega
 ·have := hf.at' (by omega); unfold Cf.slot at e; omega
 ·have := (hf.pl p).1.cls; omega
 ·have := (hf.pl p).1.at'; unfold Cf.chunk at e; omega
 ·have := (hf.spot (by omega) (by omega)).1; unfold Cf.chunk at e; omega
 ·have := hs p; unfold Cf.base at this; omega
 ·have := hf.at' (by omega); unfold Cf.slot at e; omega
def WkI (C : Cf) (b : Bg) (k sz h ix v old : Int) (own : Bool) (A1 : Ar) (bb i : Int) (w : Wk) (A : Ar) : Prop :=
 (∃ m, w = .al m ∧ 0 ≤ classOf sz ∧ Mkr C b sz own A1 bb i m A) ∨ (w = .al (Am.new sz own) ∧ classOf sz < 0 ∧ A = A1 ∧ i = 0) ∨ (∃ m, w = .dr m ∧ NoI C A1 h own i m A) ∨ (∃ m, w = .ac m ∧ NaI C A1 (Ak.new (k - 2) h ix v old own) i m A)
theorem WkI.step (hC : C.ok) (hwho : 0 ≤ who ∧ who < C.T) {b : Bg} {k sz h ix v old bb i : Int} {own : Bool} {A1 : Ar} {w : Wk} (H : WkI C b k sz h ix v old own A1 bb i w A) (i0 : 0 ≤ i) (hb : bb < 1000000) (hP1 : Pa C A1 bb) (hb2 : (A1.n : Int) ≤ 200000000) (haw : b.aw C A1.w) (hlv : b.lvok C) (h0 : 0 ≤ h ∧ h < 18446744073709551616) (hn : NoDrop C A1.w h own) (ok : A.ok (bb + i)) :
  (w.fit C A ∧ i ≤ 85 ∧ C.len ≤ A.n) ∧ ((w.step C who A).2.2.s ≤ A.s + 1 ∧ (w.step C who A).2.2.ok (bb + i + 1) ∧ C.len ≤ (w.step C who A).2.2.n ∧ (w.step C who A).2.2.w (6 + who) = A.w (6 + who)) ∧ ((w.step C who A).1 = false → WkI C b k sz h ix v old own A1 bb (i + 1) (w.step C who A).2.1 (w.step C who A).2.2) := by
 have hCC := hC.C
 rcases H with ⟨m, rfl, hcl, hM⟩ | ⟨rfl, hcl, rfl, rfl⟩ | ⟨m, rfl, hI⟩ | ⟨m, rfl, hI⟩
 ·have hf := hM.fit hC haw hcl
  have hkl := hM.ph.kle hC
  obtain ⟨⟨⟨a, ht⟩, hla⟩, h2⟩ := hM.step (who := who) hC (by omega) haw hlv hcl i0
  have hpin := ht.pin hC hwho hf fun p => by
   obtain ⟨s, F, j, _, _, e, j0, u0, u1⟩ := hM.ph.spot hC haw.alo hcl (class_bd sz).2 (by omega) (by omega)
   rw [e]; have := mulW hC j0.1 (by omega); unfold Cf.base; omega
  have hn' := hM.pa.n
  refine ⟨⟨hf, by omega, hn'⟩, ⟨by show (m.step C who A).2.2.s ≤ _; rw [ht.s]; exact Int.le_refl _, ?_, by show C.len ≤ (m.step C who A).2.2.n; rw [ht.n]; exact hn', hpin⟩, fun d => ?_⟩
  ·rcases h2 with ⟨_, h'⟩ | ⟨_, _, h'⟩
   ·have := h'.pa.ok; rwa [show bb + (i + 1) = bb + i + 1 by omega] at this
   ·exact h'.ok
  ·rcases h2 with ⟨_, h'⟩ | ⟨d', _⟩
   ·exact .inl ⟨_, rfl, hcl, h'⟩
   ·exact absurd (d.symm.trans d') (by decide)
 ·have st : (Am.new sz own).step C who A = (true, { Am.new sz own with a := (Am.new sz own).out A 5 }, A) := by
   unfold Am.step
   rw [if_pos (show (Am.new sz own).a.pc = 0 from rfl), if_pos (show classOf (Am.new sz own).a.size < 0 from hcl)]
  have p0 : (Am.new sz own).a.pc = 0 := rfl
  have p1 : (Am.new sz own).a.tk.pc = 0 := rfl
  have p2 : (Am.new sz own).a.tk.top = 0 := rfl
  have p3 : (Am.new sz own).a.tk.next = 0 := rfl
  have e : (Wk.al (Am.new sz own)).step C who A = (true, .al { Am.new sz own with a := (Am.new sz own).out A 5 }, A) := by show ((((Am.new sz own).step C who A).1, Wk.al ((Am.new sz own).step C who A).2.1, ((Am.new sz own).step C who A).2.2) : Bool × Wk × Ar) = _; rw [st]
  refine ⟨⟨⟨by omega, fun _ => ⟨by omega, fun q => by omega, by omega⟩, fun q => absurd rfl q, fun q => absurd rfl q, fun q => by omega, fun q => by omega, fun q => by omega⟩, by omega, hP1.n⟩, ?_, fun d => ?_⟩
  ·rw [e]; exact ⟨by dsimp only; omega, ok_mono ok (by omega), hP1.n, rfl⟩
  ·rw [e] at d; cases d
 ·obtain ⟨q1, ⟨q2, q2', q3⟩, q4⟩ := hI.step (who := who) hC hn h0 hP1.ok (by omega) hP1.n
  have hk : i ≤ 1 := by rcases hI with h | h <;> omega
  refine ⟨⟨q1, by omega, q2'⟩, ?_, fun d => ?_⟩
  ·show (m.step C who A).2.2.s ≤ A.s + 1 ∧ (m.step C who A).2.2.ok (bb + i + 1) ∧ C.len ≤ (m.step C who A).2.2.n ∧ (m.step C who A).2.2.w (6 + who) = A.w (6 + who)
   rcases q3 with e | ⟨a, e, a0, a1⟩
   ·rw [e]; exact ⟨by omega, ok_mono ok (by omega), q2', rfl⟩
   ·rw [e]
    exact ⟨by rw [show ((A.by who).load a).s = A.s + 1 from (ok.by (who := who)).s1 (by omega)]; exact Int.le_refl _, (ok.by (who := who)).load (by omega), q2', rfl⟩
  ·rcases q4 with ⟨_, h'⟩ | ⟨d', _⟩
   ·exact .inr (.inr (.inl ⟨_, rfl, h'⟩))
   ·exact absurd (d.symm.trans d') (by decide)
 ·obtain ⟨q1, ⟨q2, q2', q3⟩, q4⟩ := hI.step (who := who) hC hn h0 hP1.ok (by omega) hP1.n hb2
  have hk : i ≤ 1 := by rcases hI with h | h <;> omega
  refine ⟨⟨q1, by omega, q2'⟩, ?_, fun d => ?_⟩
  ·show (m.step C who A).2.2.s ≤ A.s + 1 ∧ (m.step C who A).2.2.ok (bb + i + 1) ∧ C.len ≤ (m.step C who A).2.2.n ∧ (m.step C who A).2.2.w (6 + who) = A.w (6 + who)
   rcases q3 with e | ⟨a, e, a0, a1⟩
   ·rw [e]; exact ⟨by omega, ok_mono ok (by omega), q2', rfl⟩
   ·rw [e]
    exact ⟨by rw [show ((A.by who).load a).s = A.s + 1 from (ok.by (who := who)).s1 (by omega)]; exact Int.le_refl _, (ok.by (who := who)).load (by omega), q2', rfl⟩
  ·rcases q4 with ⟨_, h'⟩ | ⟨d', _⟩
   ·exact .inr (.inr (.inr ⟨_, rfl, h'⟩))
   ·exact absurd (d.symm.trans d') (by decide)
def PJ (C : Cf) (who : Int) (b : Bg) (k sz h ix v old : Int) (own : Bool) (A0 : Ar) (bb i : Int) (a : Aa) (A : Ar) : Prop :=
 A.ok (bb + i) ∧ C.len ≤ A.n ∧ (
 (i = 0 ∧ a = Aa.new (Wk.of k sz h ix v old own) ∧ A = A0) ∨
 (i = 1 ∧ a = { Aa.new (Wk.of k sz h ix v old own) with ip := 1, ep := A0.w 0 } ∧ A = (A0.by who).load 0) ∨
 (i = 2 ∧ a = { Aa.new (Wk.of k sz h ix v old own) with ip := 2, ep := A0.w 0 } ∧ A = (((A0.by who).load 0).by who).store (6 + who) (IntKind.u64.wrap (A0.w 0 + 1))) ∨
 (3 ≤ i ∧ i ≤ 93 ∧ a.ip = 2 ∧ a.pc = 1 ∧ A.w (6 + who) = 1 ∧ WkI C b k sz h ix v old own (A0.pin who) (bb + 3) (i - 3) a.wk A) ∨
 (3 ≤ i ∧ i ≤ 94 ∧ a.ip = 2 ∧ a.pc = 2 ∧ A.w (6 + who) = 1))
theorem PJ.step (hC : C.ok) (hwho : 0 ≤ who ∧ who < C.T) {b : Bg} {k sz h ix v old bb i : Int} {own : Bool} {A0 : Ar} {a : Aa} (H : PJ C who b k sz h ix v old own A0 bb i a A) (hb : bb < 900000) (hP0 : Pa C A0 bb) (hb2 : (A0.n : Int) ≤ 200000000) (haw : b.aw C A0.w) (hlv : b.lvok C) (h0 : 0 ≤ h ∧ h < 18446744073709551616) (hn : NoDrop C (A0.pin who).w h own) (e0 : A0.w 0 = 0) (ep : A0.w (6 + who) = 0) (hk : 1 ≤ k ∧ k ≤ 5) :
    ((a.ip = 0 ∨ a.ip = 1 ∨ a.ip = 2) ∧ (a.pc = 0 ∨ a.pc = 1 ∨ a.pc = 2) ∧ (a.pc = 1 → a.wk.fit C A)) ∧ i ≤ 94 ∧ (a.step C who A).2.2.s ≤ A.s + 1 ∧ (3 ≤ i → A.w (6 + who) = 1) ∧ ((a.step C who A).2.2.ok (bb + i + 1) ∧ C.len ≤ (a.step C who A).2.2.n) ∧
    ((a.step C who A).1 = true ∧ 0 < i ∧ (a.step C who A).2.2.w (6 + who) = 0 ∧ A.w (6 + who) = 1 ∨
     (a.step C who A).1 = false ∧ ¬ (0 < i ∧ (a.step C who A).2.2.w (6 + who) = 0 ∧ A.w (6 + who) = 1) ∧ PJ C who b k sz h ix v old own A0 bb (i + 1) (a.step C who A).2.1 (a.step C who A).2.2) := by
  obtain ⟨ok, hnn, H⟩ := H
  have hP3 := hP0.pin hC hwho (by omega)
  have haw3 : b.aw C (A0.pin who).w := Bg.aw_pin hC hwho haw
  have w1 : IntKind.u64.wrap (A0.w 0 + 1) = 1 := by rw [e0]; decide
  rcases H with ⟨rfl, rfl, rfl⟩ | ⟨rfl, rfl, rfl⟩ | ⟨rfl, rfl, rfl⟩ | ⟨i1, i2, p1, p2, p3, hI⟩ | ⟨i1, i2, p1, p2, p3⟩
  · have st : (Aa.new (Wk.of k sz h ix v old own)).step C who A = (false, { Aa.new (Wk.of k sz h ix v old own) with ip := 1, ep := A.w 0 }, (A.by who).load 0) := rfl
    have okn : ((A.by who).load 0).ok (bb + 0 + 1) := (ok.by (who := who)).load (by omega)
    rw [st]
    refine ⟨⟨.inl rfl, .inl rfl, fun e => absurd e (by show ¬ (0 : Int) = 1; decide)⟩, by decide, ?_, fun q => by omega, ⟨okn, hnn⟩, .inr ⟨rfl, fun q => by omega, by rw [show bb + (0 + 1) = bb + 0 + 1 by omega]; exact okn, hnn, .inr (.inl ⟨rfl, rfl, rfl⟩)⟩⟩
    show ((A.by who).load 0).s ≤ _
    rw [show ((A.by who).load 0).s = A.s + 1 from (ok.by (who := who)).s1 (by omega)]; exact Int.le_refl _
  · have st : ({ Aa.new (Wk.of k sz h ix v old own) with ip := 1, ep := A0.w 0 } : Aa).step C who ((A0.by who).load 0) = (false, { Aa.new (Wk.of k sz h ix v old own) with ip := 2, ep := A0.w 0 }, (((A0.by who).load 0).by who).store (6 + who) (IntKind.u64.wrap (A0.w 0 + 1))) := rfl
    have okn : ((((A0.by who).load 0).by who).store (6 + who) (IntKind.u64.wrap (A0.w 0 + 1))).ok (bb + 1 + 1) := (ok.by (who := who)).store (by omega) (wrap_in _)
    rw [st]
    refine ⟨⟨.inr (.inl rfl), .inl rfl, fun e => absurd e (by show ¬ (0 : Int) = 1; decide)⟩, by decide, ?_, fun q => by omega, ⟨okn, hnn⟩, .inr ⟨rfl, fun q => ?_, by rw [show bb + (1 + 1) = bb + 1 + 1 by omega]; exact okn, hnn, .inr (.inr (.inl ⟨rfl, rfl, rfl⟩))⟩⟩
    · show ((((A0.by who).load 0).by who).store (6 + who) (IntKind.u64.wrap (A0.w 0 + 1))).s ≤ _
      rw [show ((((A0.by who).load 0).by who).store (6 + who) (IntKind.u64.wrap (A0.w 0 + 1))).s = ((A0.by who).load 0).s + 1 from (ok.by (who := who)).s1 (by omega)]; exact Int.le_refl _
    · have q2 : A0.w (6 + who) = 1 := q.2.2
      omega
  · have ew0 : ((((A0.by who).load 0).by who).store (6 + who) (IntKind.u64.wrap (A0.w 0 + 1))).w 0 = A0.w 0 := by
      rw [store_w, upd_ne _ _ (by omega)]; rfl
    have ewp : ((((A0.by who).load 0).by who).store (6 + who) (IntKind.u64.wrap (A0.w 0 + 1))).w (6 + who) = 1 := by
      rw [store_w, upd_same, w1]
    have st : (({ Aa.new (Wk.of k sz h ix v old own) with ip := 2, ep := A0.w 0 } : Aa).step C who ((((A0.by who).load 0).by who).store (6 + who) (IntKind.u64.wrap (A0.w 0 + 1)))) = (false, { Aa.new (Wk.of k sz h ix v old own) with ip := 2, ep := A0.w 0, pc := 1 }, A0.pin who) := by
      unfold Aa.step; dsimp only [Aa.new]; simp only [ew0, if_true, show ¬ (2 : Int) = 0 by decide, show ¬ (2 : Int) = 1 by decide, if_false]; rfl
    have okn : (A0.pin who).ok (bb + 2 + 1) := (ok.by (who := who)).load (by omega)
    have ewp' : (A0.pin who).w (6 + who) = 1 := ewp
    have hI0 : WkI C b k sz h ix v old own (A0.pin who) (bb + 3) 0 (Wk.of k sz h ix v old own) (A0.pin who) := by
      by_cases e1 : k = 1
      · subst e1
        by_cases hcl : classOf sz < 0
        · exact .inr (.inl ⟨rfl, hcl, rfl, rfl⟩)
        · exact .inl ⟨_, rfl, by omega, .new hP3 haw3⟩
      · by_cases e2 : k = 2
        · subst e2; exact .inr (.inr (.inl ⟨_, rfl, .inl ⟨rfl, rfl, rfl⟩⟩))
        · exact .inr (.inr (.inr ⟨_, Wk.of3 (by omega), .inl ⟨rfl, rfl, rfl⟩⟩))
    rw [st]
    refine ⟨⟨.inr (.inr rfl), .inl rfl, fun e => absurd e (by show ¬ (0 : Int) = 1; decide)⟩, by decide, ?_, fun q => by omega, ⟨okn, hnn⟩, .inr ⟨rfl, fun q => ?_, by rw [show bb + (2 + 1) = bb + 2 + 1 by omega]; exact okn, hnn, .inr (.inr (.inr (.inl ⟨by decide, by decide, rfl, rfl, ewp', hI0⟩)))⟩⟩
    · show (A0.pin who).s ≤ _
      rw [show (A0.pin who).s = ((((A0.by who).load 0).by who).store (6 + who) (IntKind.u64.wrap (A0.w 0 + 1))).s + 1 from (ok.by (who := who)).s1 (by omega)]; exact Int.le_refl _
    · have q2 : (A0.pin who).w (6 + who) = 0 := q.2.1
      omega
  · obtain ⟨⟨f1, f2, f3⟩, ⟨g1, g2, g3, g4⟩, hst⟩ := hI.step hC hwho (by omega) (by omega) hP3 hb2 haw3 hlv h0 hn (by rw [show bb + 3 + (i - 3) = bb + i by omega]; exact ok)
    rw [show bb + 3 + (i - 3) + 1 = bb + i + 1 by omega] at g2
    by_cases c1 : (a.wk.step C who A).1 = true
    · have st := Aa.st_wk p2 c1
      rw [st]
      dsimp only
      refine ⟨⟨.inr (.inr p1), .inr (.inl p2), fun _ => f1⟩, by omega, g1, fun _ => p3, ⟨g2, g3⟩, .inr ⟨rfl, fun q => absurd ((p3.symm.trans g4.symm).trans q.2.1) (by decide), by rw [show bb + (i + 1) = bb + i + 1 by omega]; exact g2, g3, .inr (.inr (.inr (.inr ⟨by omega, by omega, p1, rfl, by rw [g4]; exact p3⟩)))⟩⟩
    · have st := Aa.st_go p2 c1
      have c2 : (a.wk.step C who A).1 = false := by simpa using c1
      rw [st]
      dsimp only
      refine ⟨⟨.inr (.inr p1), .inr (.inl p2), fun _ => f1⟩, by omega, g1, fun _ => p3, ⟨g2, g3⟩, .inr ⟨rfl, fun q => absurd ((p3.symm.trans g4.symm).trans q.2.1) (by decide), by rw [show bb + (i + 1) = bb + i + 1 by omega]; exact g2, g3, .inr (.inr (.inr (.inl ⟨by omega, by omega, p1, p2, by rw [g4]; exact p3, ?_⟩)))⟩⟩
      rw [show i + 1 - 3 = i - 3 + 1 by omega]; exact hst c2
  · have st := Aa.st_out (C := C) (who := who) (A := A) p2
    rw [st]
    dsimp only
    have es := ok.out_s (who := who) (by omega)
    refine ⟨⟨.inr (.inr p1), .inr (.inr p2), fun e => by omega⟩, by omega, by omega, fun _ => p3, ⟨(ok.by (who := who)).store (by omega) ⟨by decide, by decide⟩, hnn⟩, .inl ⟨rfl, by omega, upd_same _ _ _, p3⟩⟩
theorem law_ActPins (σ : Mem) (a0 : Array Value) (w0 : FlatL [some .i64, some .i64, some .u64, some .i64, some .i64, some .i64, none] a0.toList) (a1 : Int) (w1 : (Lit.int .i64 a1).wf = true) :
  s_a3 [.agg a0, .int .i64 a1] (fun v _ => v = .bool true) σ := by
 obtain ⟨k, sz, h, ix, v, old, own, h0, n0, n1⟩ := act7 w0
 have e0 : a0 = #[.int .i64 k, .int .i64 sz, .int .u64 h, .int .i64 ix, .int .i64 v, .int .i64 old, .bool own] := by apply Array.ext'; simpa using h0
 subst e0
 simp only [s_a3, w_a3, box7, ruS, ruL, ruE, Nat.reduceAdd, reduceIte, Int.reduceLT, Int.reduceLE, Int.reduceEq, Int.reduceNeg, Int.reduceAdd, Int.reduceSub, Nat.reduceLeDiff, Nat.reduceLT]
 have hC : (cA 4 6 4 40).ok := cA_ok (by omega) (by omega) (by omega) (by omega)
 refine c_Arena (C := cA 4 6 4 40) hC rfl rfl rfl fun N A τ hN hF hA hE hfr => ?_
 have g8 : ∀ {who : Int}, gStore 1 [.pointer (some ⟨5, 8, some 0⟩), .int .i64 who] (N.el (cA 4 6 4 40) 0) = some (N.el (cA 4 6 4 40) who) := fun {_} => rfl
 simp only [c_awake15, gStoreE, w_a3_j1, w_a3_j1b, andI3, g8, sub7, c_cut, ruS, ruL, ruE, Nat.reduceAdd, reduceIte, Int.reduceLT, Int.reduceLE, Int.reduceEq, Int.reduceNeg, Int.reduceAdd, Int.reduceSub, Nat.reduceLeDiff, Nat.reduceLT]
 have hW := hF.wo hC
 have hP := hF.pa hC
 have hn := hF.n
 have hln := len_bd hC
 have hbb : 2 * (cA 4 6 4 40).S + 2 = 14 := rfl
 have hwho : (0 : Int) ≤ a1 % 4 ∧ a1 % 4 < (cA 4 6 4 40).T := by show 0 ≤ a1 % 4 ∧ a1 % 4 < 4; omega
 have e0 : A.w 0 = 0 := by rw [hF.w]; rfl
 have ep : A.w (6 + a1 % 4) = 0 := by
  rw [hF.w]
  have : a1 % 4 = 0 ∨ a1 % 4 = 1 ∨ a1 % 4 = 2 ∨ a1 % 4 = 3 := by omega
  rcases this with e | e | e | e <;> rw [e] <;> rfl
 have hT := hC.T
 rw [hbb] at hP
 generalize cA 4 6 4 40 = C at *
 generalize Bg.fr C = b at *
 generalize a1 % 4 = who at *
 clear hF
 have ok1 : okAct (cutK k) (v % 1099511627776) (old % 1099511627776) := ⟨cutK_bd k, by omega, by omega⟩
 refine c_ActNew hA ok1 fun p q τ1 hp hq hob x1 => ?_
 have hA1 := hA.ext x1
 have hpb : 0 ≤ 6 + who ∧ 6 + who < A.n := by unfold Cf.chunk at hln; have := hC.C; have := hC.S; omega
 have pin8 : ∀ {K : Value → Mem → Prop} {σ : Mem}, s_bn [.int .i64 who] K σ = K (.int .i64 (6 + who)) σ := fun {K σ} => c_Pin hwho.1 (by omega)
 simp only [ruS, ruL, ruE, Nat.reduceAdd, reduceIte, Int.reduceLT, Int.reduceLE, Int.reduceEq, Int.reduceNeg, Int.reduceAdd, Int.reduceSub, Nat.reduceLeDiff, Nat.reduceLT]
 rw [pin8, c_PeekA hN hA1 hpb.1 hpb.2, ep]
 simp only [ne_eq, not_true_eq_false, w_a3_j2, w_a3_j2b, ruS, ruL, ruE, Nat.reduceAdd, reduceIte, Int.reduceLT, Int.reduceLE, Int.reduceEq, Int.reduceNeg, Int.reduceAdd, Int.reduceSub, Nat.reduceLeDiff, Nat.reduceLT]
 have hnd : NoDrop C (A.pin who).w h own := (hW.pin hC hwho).miss hC ⟨n0, n1⟩ fun s d hh => by cases hh.2.1
 have hkk := cutK_bd k
 generalize cutK k = kk at *
 generalize v % 1099511627776 = v' at *
 generalize old % 1099511627776 = old' at *
 have hnb : (A.n : Int) ≤ 200000000 := by omega
 refine xLoop_r (fun m ts ls τ => ∃ i a A' O, m = (100 - i).toNat ∧ ts = [.pointer (some ⟨p, 0, none⟩), .int .i64 i] ∧ ls = [N.el C who] ∧ 0 ≤ i ∧ isA N A' τ ∧ PJ C who b kk sz h ix v' old' own A 14 i a A' ∧ TOb N p O a τ) ?_ (n := 100)
  ⟨0, _, A, [q], rfl, rfl, rfl, Int.le_refl 0, hA1, ⟨by simpa using hP.ok, hP.n, .inl ⟨rfl, rfl, rfl⟩⟩, hob⟩
 rintro m ts ls τ2 ⟨i, a, A2, O, rfl, rfl, rfl, i0, hA2, hJ, hO⟩ R hR
 have okA := hJ.1
 have hnA := hJ.2.1
 obtain ⟨⟨f1, f2, f3⟩, i94, hs, hp1, ⟨okn, hnn⟩, hd⟩ := hJ.step hC hwho (by decide) hP hnb hW.aw (hW.lv.ok (by decide)) ⟨n0, n1⟩ hnd e0 ep hkk
 have hpb2 : 6 + who < A2.n := by unfold Cf.chunk at hln; have := hC.C; have := hC.S; omega
 have c1 : i < 300 := by omega
 simp only [w_law15_ActPins_l10, w_law15_ActPins_l10b, c1, c_NowA hA2, ruS, ruL, ruE, Nat.reduceAdd, reduceIte, Int.reduceLT, Int.reduceLE, Int.reduceEq, Int.reduceNeg, Int.reduceAdd, Int.reduceSub, Nat.reduceLeDiff, Nat.reduceLT]
 rw [pin8, c_PeekA hN hA2 hpb.1 hpb2]
 simp only [ruS, ruL, ruE, Nat.reduceAdd, reduceIte, Int.reduceLT, Int.reduceLE, Int.reduceEq, Int.reduceNeg, Int.reduceAdd, Int.reduceSub, Nat.reduceLeDiff, Nat.reduceLT]
 refine c_ActStep hN hC hA2 hO okA.w hnA hwho f1 f2 f3 fun O' τ3 hO' hA3 hO3 k3 => ?_
 have okA' := okA.s
 generalize a.step C who A2 = r at *
 obtain ⟨d, a', A3⟩ := r
 dsimp only at *
 have hpb3 : 6 + who < A3.n := by unfold Cf.chunk at hln; have := hC.C; have := hC.S; omega
 have cs : ¬ A2.s + 1 < A3.s := by omega
 have c3 : ¬ (3 ≤ i ∧ ¬ A2.w (6 + who) = 1) := fun q => q.2 (hp1 q.1)
 have hA2s := okA.s
 simp only [c_NowA hA3, ruS, ruL, ruE, Nat.reduceAdd, reduceIte, Int.reduceLT, Int.reduceLE, Int.reduceEq, Int.reduceNeg, Int.reduceAdd, Int.reduceSub, Nat.reduceLeDiff, Nat.reduceLT]
 rw [IntWalk.i64_in (A2.s + 1) (by omega)]
 simp only [cs, ruS, ruL, ruE, Nat.reduceAdd, reduceIte, Int.reduceLT, Int.reduceLE, Int.reduceEq, Int.reduceNeg, Int.reduceAdd, Int.reduceSub, Nat.reduceLeDiff, Nat.reduceLT]
 have j4 : w_a3_j4 (fun v _ => v = .bool true) (w_a3_j3 fun v _ => v = .bool true) R [.pointer (some ⟨p, 0, none⟩), .int .i64 i, .bool d, .bool false] [N.el C who] τ3 := by
  simp only [w_a3_j4, w_a3_j4b, ruS, ruL, ruE, Nat.reduceAdd, reduceIte, Int.reduceLT, Int.reduceLE, Int.reduceEq, Int.reduceNeg, Int.reduceAdd, Int.reduceSub, Nat.reduceLeDiff, Nat.reduceLT]
  rcases hd with ⟨rfl, _⟩ | ⟨rfl, _, hJ'⟩
  ·simp only [ruS, ruL, ruE, Nat.reduceAdd, reduceIte, Int.reduceLT, Int.reduceLE, Int.reduceEq, Int.reduceNeg, Int.reduceAdd, Int.reduceSub, Nat.reduceLeDiff, Nat.reduceLT]
  ·simp only [ruS, ruL, ruE, Nat.reduceAdd, reduceIte, Int.reduceLT, Int.reduceLE, Int.reduceEq, Int.reduceNeg, Int.reduceAdd, Int.reduceSub, Nat.reduceLeDiff, Nat.reduceLT]
   rw [IntWalk.i64_in (i + 1) (by omega)]
   exact hR (100 - (i + 1)).toNat _ _ _ (by omega) ⟨i + 1, a', A3, O', rfl, rfl, rfl, by omega, hA3, hJ', hO3⟩
 have eD : ∀ x : Bool, x = d → (!(d == x)) = false := fun x e => by subst e; simp
 have tail : ∀ K : Value → Prop, True := fun _ => trivial
 by_cases i3 : 3 ≤ i
 ·have hp1' := hp1 i3
  have ii : 0 < i := by omega
  simp only [i3, hp1', ii, ne_eq, not_true_eq_false, ruS, ruL, ruE, Nat.reduceAdd, reduceIte, Int.reduceLT, Int.reduceLE, Int.reduceEq, Int.reduceNeg, Int.reduceAdd, Int.reduceSub, Nat.reduceLeDiff, Nat.reduceLT]
  rw [pin8, c_PeekA hN hA3 hpb.1 hpb3]
  by_cases cz : A3.w (6 + who) = 0
  ·have : d = true := by rcases hd with ⟨rfl, _⟩ | ⟨_, q, _⟩; rfl; exact absurd ⟨ii, cz, hp1'⟩ q
   subst this
   simp only [cz, xNeBB, eD, ruS, ruL, ruE, Nat.reduceAdd, reduceIte, Int.reduceLT, Int.reduceLE, Int.reduceEq, Int.reduceNeg, Int.reduceAdd, Int.reduceSub, Nat.reduceLeDiff, Nat.reduceLT]; exact j4
  ·have : d = false := by rcases hd with ⟨_, _, q, _⟩ | ⟨rfl, _⟩; exact absurd q cz; rfl
   subst this
   simp only [cz, xNeBB, eD, ruS, ruL, ruE, Nat.reduceAdd, reduceIte, Int.reduceLT, Int.reduceLE, Int.reduceEq, Int.reduceNeg, Int.reduceAdd, Int.reduceSub, Nat.reduceLeDiff, Nat.reduceLT]; exact j4
 ·by_cases ii : 0 < i
  ·simp only [i3, ii, ruS, ruL, ruE, Nat.reduceAdd, reduceIte, Int.reduceLT, Int.reduceLE, Int.reduceEq, Int.reduceNeg, Int.reduceAdd, Int.reduceSub, Nat.reduceLeDiff, Nat.reduceLT]
   rw [pin8, c_PeekA hN hA3 hpb.1 hpb3]
   by_cases cz : A3.w (6 + who) = 0
   ·by_cases cp : A2.w (6 + who) = 1
    ·have : d = true := by rcases hd with ⟨rfl, _⟩ | ⟨_, q, _⟩; rfl; exact absurd ⟨ii, cz, cp⟩ q
     subst this
     simp only [cz, cp, xNeBB, eD, ruS, ruL, ruE, Nat.reduceAdd, reduceIte, Int.reduceLT, Int.reduceLE, Int.reduceEq, Int.reduceNeg, Int.reduceAdd, Int.reduceSub, Nat.reduceLeDiff, Nat.reduceLT]; exact j4
    ·have : d = false := by rcases hd with ⟨_, _, _, q⟩ | ⟨rfl, _⟩; exact absurd q cp; rfl
     subst this
     simp only [cz, cp, xNeBB, eD, ruS, ruL, ruE, Nat.reduceAdd, reduceIte, Int.reduceLT, Int.reduceLE, Int.reduceEq, Int.reduceNeg, Int.reduceAdd, Int.reduceSub, Nat.reduceLeDiff, Nat.reduceLT]; exact j4
   ·have : d = false := by rcases hd with ⟨_, _, q, _⟩ | ⟨rfl, _⟩; exact absurd q cz; rfl
    subst this
    simp only [cz, xNeBB, eD, ruS, ruL, ruE, Nat.reduceAdd, reduceIte, Int.reduceLT, Int.reduceLE, Int.reduceEq, Int.reduceNeg, Int.reduceAdd, Int.reduceSub, Nat.reduceLeDiff, Nat.reduceLT]; exact j4
  ·have : d = false := by rcases hd with ⟨_, q, _⟩ | ⟨rfl, _⟩; exact absurd q ii; rfl
   subst this
   simp only [i3, ii, xNeBB, eD, ruS, ruL, ruE, Nat.reduceAdd, reduceIte, Int.reduceLT, Int.reduceLE, Int.reduceEq, Int.reduceNeg, Int.reduceAdd, Int.reduceSub, Nat.reduceLeDiff, Nat.reduceLT]; exact j4
end Go.Fl
