/- What the claim leans on, part 5: own readings of the program's functions, what they come to, laws of them. No condition. -/
import Derived.Test.YtbmcbcoaeclfbaaZActStamps4
namespace Go.Fl
open Go
set_option linter.unusedVariables false
set_option linter.unusedSimpArgs false
variable {N : Nm} {A B : Ar} {σ : Mem} {K : Value → Mem → Prop} {C : Cf} {who : Int}
structure Ac where
 kd : Int
 n : Int
 ix : Int
 v : Int
 old : Int
 own : Bool
 hs : Int
 hg : Int
 pc : Int
 w : Int
 cell : Int
 seen : Int
 rd : Int
 size : Int
 help : Option Nat
 oE : Int
 oH : Int
 oV : Int
 oS : Int
def Ac.l (a : Ac) : List Value := [.int .i64 a.kd, .int .u64 a.n, .int .i64 a.ix, .int .i64 a.v, .int .i64 a.old, .bool a.own, .int .i64 a.hs, .int .i64 a.hg, .int .i64 a.pc, .int .u64 a.w, .int .u64 a.cell, .int .i64 a.seen, .int .i64 a.rd, .int .i64 a.size, obP a.help, .int .i64 a.oE, .int .u64 a.oH, .int .i64 a.oV, .int .i64 a.oS]
def Ac.new (kd n ix v old : Int) (own : Bool) : Ac := ⟨kd, n, ix, v, old, own, 0, 0, 0, 0, 0, 0, 0, 0, none, 0, 0, 0, 0⟩
def Ac.nxt (a : Ac) : Int :=
 if a.kd = 1 ∨ a.kd = 3 ∧ ceV a.cell ≠ a.old then 6 else if slS a.w = 4 then 4 else if ceF a.cell = false ∨ ceN a.cell < slV a.w then 5 else if ceN a.cell = slV a.w ∧ slS a.w = 2 then 3 else 0
def Ac.at' (a : Ac) : Int := slA a.w + 1 + a.ix
def Ac.fin (a : Ac) (e v s : Int) : Ac := { a with oE := e, oH := 0, oV := v, oS := s }
theorem ldAx {p k sz : Nat} {ag : Bool} {a : Ac} {v : Value} (hd : p ∉ N.l) (h : sub a.l k sz ag = some v) : hLoad sz ag [.pointer (some ⟨p, k, none⟩)] K (putA N A (σ.set p ⟨a.l, true⟩)) = K v (putA N A (σ.set p ⟨a.l, true⟩)) := by
 rw [hLoad_eq ((putA_get hd).trans (Mem.get_set_same _ _ _)), h, xOs]
theorem stAx {p k : Nat} {a : Ac} (a' : Ac) {x : Value} (hd : p ∉ N.l) (hx : cellsOf x 1 = some [x]) (ho : oneB x = true) (hk : k + 1 ≤ 19) (e : lay a.l k [x] = a'.l) :
  hStore 1 [.pointer (some ⟨p, k, none⟩), x] K (putA N A (σ.set p ⟨a.l, true⟩)) = K undef (putA N A (σ.set p ⟨a'.l, true⟩)) := by
 have := stO (K := K) (N := N) (A := A) (σ := σ) (p := p) (pre := []) (L := a.l) (post := []) (k := k) (sz := 1) (x := x) (c := [x]) hd hx rfl hk (by simp [ho])
 rw [e] at this
 simpa only [List.nil_append, List.append_nil, List.length_nil, Nat.zero_add] using this
theorem stAxa {p k sz : Nat} {a : Ac} (a' : Ac) {c : List Value} (hd : p ∉ N.l) (hl : c.length = sz) (ho : c.all oneB = true) (hk : k + sz ≤ 19) (e : lay a.l k c = a'.l) :
  hStore sz [.pointer (some ⟨p, k, none⟩), .agg c.toArray] K (putA N A (σ.set p ⟨a.l, true⟩)) = K undef (putA N A (σ.set p ⟨a'.l, true⟩)) := by
 have := stOa (K := K) (N := N) (A := A) (σ := σ) (p := p) (pre := []) (L := a.l) (post := []) (k := k) (sz := sz) (c := c) hd hl hk ho
 rw [e] at this
 simpa only [List.nil_append, List.append_nil, List.length_nil, Nat.zero_add] using this
theorem c_AccNew {kd n ix v old : Int} {o : Bool} (hk : ∀ id τ, σ.get id = none → τ.get id = some ⟨(Ac.new kd n ix v old o).l, true⟩ → Ext σ τ → K (.pointer (some ⟨id, 0, none⟩)) τ) :
  s_ag [.agg #[.int .i64 kd, .int .u64 n, .int .i64 ix, .int .i64 v, .int .i64 old], .bool o] K σ := by
 have b : ∀ K : Value → Prop, xF (fBuild [(0, 5), (5, 1), (6, 2), (8, 1), (9, 1), (10, 1), (11, 1), (12, 1), (13, 1), (14, 1), (15, 4)] [.int .i64 0, .int .u64 0, .int .i64 0, .int .i64 0, .int .i64 0, .bool false, .int .i64 0, .int .i64 0, .int .i64 0, .int .u64 0, .int .u64 0, .int .i64 0, .int .i64 0, .int .i64 0, .pointer none, .int .i64 0, .int .u64 0, .int .i64 0, .int .i64 0] [0, 1]) [.agg #[.int .i64 kd, .int .u64 n, .int .i64 ix, .int .i64 v, .int .i64 old], .bool o] K =
   K (.agg (Ac.new kd n ix v old o).l.toArray) := fun K => nr rfl
 have g : gBox 5 [.agg #[.int .i64 kd, .int .u64 n, .int .i64 ix, .int .i64 v, .int .i64 old]] [] = some [.int .i64 kd, .int .u64 n, .int .i64 ix, .int .i64 v, .int .i64 old] := rfl
 have s5 : ∀ x y z u w : Value, gLoad 5 true [.pointer (some ⟨2, 0, some 0⟩)] [x, y, z, u, w] = some (.agg #[x, y, z, u, w]) := fun _ _ _ _ _ => rfl
 simp only [s_ag, w_ag, g, s5, locP, b, xCs, xOs, ruS, Nat.reduceAdd, reduceIte, Int.reduceLT, Int.reduceLE, Int.reduceEq, Int.reduceNeg, Int.reduceAdd, Int.reduceSub]
 exact hBox_i (cs := (Ac.new kd n ix v old o).l) rfl hk
theorem c_AccDone (hA : isA N A σ) {p : Nat} {a : Ac} (hp : σ.get p = some ⟨a.l, true⟩) (hk : K (.agg #[.int .i64 a.oE, .int .u64 a.oH, .int .i64 a.oV, .int .i64 a.oS]) σ) : s_aa [.pointer (some ⟨p, 0, none⟩)] K σ := by
 have gs : ∀ x y z w : Int, gStore 4 [.pointer (some ⟨2, 0, some 0⟩), .agg #[.int .i64 x, .int .u64 y, .int .i64 z, .int .i64 w]] [.int .i64 0, .int .u64 0, .int .i64 0, .int .i64 0] = some [.int .i64 x, .int .u64 y, .int .i64 z, .int .i64 w] := fun _ _ _ _ => rfl
 simp only [s_aa, w_aa, ruS, ruL, ruE, Nat.reduceAdd, reduceIte, Int.reduceLT, Int.reduceLE, Int.reduceEq, Int.reduceNeg, Int.reduceAdd, Int.reduceSub, Nat.reduceLeDiff, Nat.reduceLT]
 rw [ldG hp (show sub a.l 15 4 true = some (.agg #[.int .i64 a.oE, .int .u64 a.oH, .int .i64 a.oV, .int .i64 a.oS]) from rfl)]
 simp only [gs, sub4, ruS, ruL, ruE, Nat.reduceAdd, reduceIte, Int.reduceLT, Int.reduceLE, Int.reduceEq, Int.reduceNeg, Int.reduceAdd, Int.reduceSub, Nat.reduceLeDiff, Nat.reduceLT]
 exact hk
theorem c_Aend {p : Nat} {a : Ac} {e v s : Int} (hd : p ∉ N.l) : s_ae [.pointer (some ⟨p, 0, none⟩), .int .i64 e, .int .i64 v, .int .i64 s] K (putA N A (σ.set p ⟨a.l, true⟩)) = K (.bool true) (putA N A (σ.set p ⟨(a.fin e v s).l, true⟩)) := by
 have b : ∀ (K : Value → Prop), xF (fBuild [(0, 1), (1, 1), (2, 1), (3, 1)] [.int .i64 0, .int .u64 0, .int .i64 0, .int .i64 0] [0, 2, 3]) [.int .i64 e, .int .i64 v, .int .i64 s] K = K (.agg #[.int .i64 e, .int .u64 0, .int .i64 v, .int .i64 s]) := fun K => nr rfl
 simp only [s_ae, w_ae, b, ruS, ruL, ruE, Nat.reduceAdd, reduceIte, Int.reduceLT, Int.reduceLE, Int.reduceEq, Int.reduceNeg, Int.reduceAdd, Int.reduceSub, Nat.reduceLeDiff, Nat.reduceLT]
 have := stAxa (K := fun _ σ => K (.bool true) σ) (N := N) (A := A) (σ := σ) (p := p) (a := a) (a.fin e v s) (c := [.int .i64 e, .int .u64 0, .int .i64 v, .int .i64 s]) (sz := 4) (k := 15) hd rfl rfl (by decide) rfl
 exact this
theorem c_Aat {p : Nat} {a : Ac} (hd : p ∉ N.l) (h3 : 0 ≤ a.w ∧ a.w < 18446744073709551616) (h : 0 ≤ a.at' ∧ a.at' < 9223372036854775807) : s_ac [.pointer (some ⟨p, 0, none⟩)] K (putA N A (σ.set p ⟨a.l, true⟩)) = K (.int .i64 a.at') (putA N A (σ.set p ⟨a.l, true⟩)) := by
 have hA1 := slA_bd a.w
 simp only [s_ac, w_ac, ruS, ruL, ruE, Nat.reduceAdd, reduceIte, Int.reduceLT, Int.reduceLE, Int.reduceEq, Int.reduceNeg, Int.reduceAdd, Int.reduceSub, Nat.reduceLeDiff, Nat.reduceLT]
 rw [ldAx hd (show sub _ 9 1 false = some (.int .u64 a.w) from rfl), c_wSlot h3.1 h3.2]
 simp only [xFldV, List.toList_toArray, ruS, ruL, ruE, Nat.reduceAdd, reduceIte, Int.reduceLT, Int.reduceLE, Int.reduceEq, Int.reduceNeg, Int.reduceAdd, Int.reduceSub, Nat.reduceLeDiff, Nat.reduceLT]
 rw [ldAx hd (show sub _ 2 1 false = some (.int .i64 a.ix) from rfl), IntWalk.i64_in (slA a.w + 1) (by omega)]
 simp only [ruS, ruL, ruE, Nat.reduceAdd, reduceIte, Int.reduceLT, Int.reduceLE, Int.reduceEq, Int.reduceNeg, Int.reduceAdd, Int.reduceSub, Nat.reduceLeDiff, Nat.reduceLT]
 rw [show slA a.w + 1 + a.ix = a.at' from rfl, IntWalk.i64_in _ (by omega)]
theorem c_Anext {p : Nat} {a : Ac} (hd : p ∉ N.l) (h3 : 0 ≤ a.w ∧ a.w < 18446744073709551616) (h4 : 0 ≤ a.cell ∧ a.cell < 18446744073709551616) : s_af [.pointer (some ⟨p, 0, none⟩)] K (putA N A (σ.set p ⟨a.l, true⟩)) = K (.int .i64 a.nxt) (putA N A (σ.set p ⟨a.l, true⟩)) := by
 have g4 : ∀ (k : Nat) (x y z w x' y' z' w' : Int), gStore 4 [.pointer (some ⟨k, 0, some 0⟩), .agg #[.int .i64 x, .int .i64 y, .int .i64 z, .int .i64 w]] [.int .i64 x', .int .i64 y', .int .i64 z', .int .i64 w'] = some [.int .i64 x, .int .i64 y, .int .i64 z, .int .i64 w] := fun _ _ _ _ _ _ _ _ _ => rfl
 have g3 : ∀ (k : Nat) (x z : Int) (y : Bool) (x' z' : Int) (y' : Bool), gStore 3 [.pointer (some ⟨k, 0, some 0⟩), .agg #[.int .i64 x, .bool y, .int .i64 z]] [.int .i64 x', .bool y', .int .i64 z'] = some [.int .i64 x, .bool y, .int .i64 z] := fun _ _ _ _ _ _ _ => rfl
 simp only [s_af, w_af, ruS, ruL, ruE, Nat.reduceAdd, reduceIte, Int.reduceLT, Int.reduceLE, Int.reduceEq, Int.reduceNeg, Int.reduceAdd, Int.reduceSub, Nat.reduceLeDiff, Nat.reduceLT]
 rw [ldAx hd (show sub _ 10 1 false = some (.int .u64 a.cell) from rfl), c_wCell h4.1 h4.2]
 simp only [ruS, ruL, ruE, Nat.reduceAdd, reduceIte, Int.reduceLT, Int.reduceLE, Int.reduceEq, Int.reduceNeg, Int.reduceAdd, Int.reduceSub, Nat.reduceLeDiff, Nat.reduceLT]
 rw [ldAx hd (show sub _ 9 1 false = some (.int .u64 a.w) from rfl), c_wSlot h3.1 h3.2]
 simp only [g3, g4, ruS, ruL, ruE, Nat.reduceAdd, reduceIte, Int.reduceLT, Int.reduceLE, Int.reduceEq, Int.reduceNeg, Int.reduceAdd, Int.reduceSub, Nat.reduceLeDiff, Nat.reduceLT]
 rw [ldAx hd (show sub _ 0 1 false = some (.int .i64 a.kd) from rfl)]
 have rest : ∀ b : Bool, (b = true ↔ a.kd = 1 ∨ a.kd = 3 ∧ ceV a.cell ≠ a.old) → w_af_j1 K [.bool b] [[.int .i64 (ceV a.cell), .bool (ceF a.cell), .int .i64 (ceN a.cell)], [.int .i64 (slS a.w), .int .i64 (slA a.w), .int .i64 (slG a.w), .int .i64 (slV a.w)]] (putA N A (σ.set p ⟨a.l, true⟩)) = K (.int .i64 a.nxt) (putA N A (σ.set p ⟨a.l, true⟩)) := by
  intro b hb
  unfold Ac.nxt
  simp only [← hb]
  simp only [w_af_j1, w_af_j1b, ruS, ruL, ruE, Nat.reduceAdd, reduceIte, Int.reduceLT, Int.reduceLE, Int.reduceEq, Int.reduceNeg, Int.reduceAdd, Int.reduceSub, Nat.reduceLeDiff, Nat.reduceLT]
  cases b with
  | true => simp only [ruS, ruL, ruE, Nat.reduceAdd, reduceIte, Int.reduceLT, Int.reduceLE, Int.reduceEq, Int.reduceNeg, Int.reduceAdd, Int.reduceSub, Nat.reduceLeDiff, Nat.reduceLT]
  | false =>
   simp only [Bool.false_eq_true, if_false, ruS, ruL, ruE, Nat.reduceAdd, reduceIte, Int.reduceLT, Int.reduceLE, Int.reduceEq, Int.reduceNeg, Int.reduceAdd, Int.reduceSub, Nat.reduceLeDiff, Nat.reduceLT]
   by_cases c1 : slS a.w = 4
   ·simp only [c1, ruS, ruL, ruE, Nat.reduceAdd, reduceIte, Int.reduceLT, Int.reduceLE, Int.reduceEq, Int.reduceNeg, Int.reduceAdd, Int.reduceSub, Nat.reduceLeDiff, Nat.reduceLT]
   ·simp only [c1, ruS, ruL, ruE, Nat.reduceAdd, reduceIte, Int.reduceLT, Int.reduceLE, Int.reduceEq, Int.reduceNeg, Int.reduceAdd, Int.reduceSub, Nat.reduceLeDiff, Nat.reduceLT]
    cases c2 : ceF a.cell with
    | false => simp only [w_af_j2, w_af_j2b, true_or, ruS, ruL, ruE, Nat.reduceAdd, reduceIte, Int.reduceLT, Int.reduceLE, Int.reduceEq, Int.reduceNeg, Int.reduceAdd, Int.reduceSub, Nat.reduceLeDiff, Nat.reduceLT]
    | true =>
     by_cases c3 : ceN a.cell < slV a.w
     ·simp only [c3, w_af_j2, w_af_j2b, or_true, ruS, ruL, ruE, Nat.reduceAdd, reduceIte, Int.reduceLT, Int.reduceLE, Int.reduceEq, Int.reduceNeg, Int.reduceAdd, Int.reduceSub, Nat.reduceLeDiff, Nat.reduceLT]
     ·by_cases c4 : ceN a.cell = slV a.w
      ·by_cases c5 : slS a.w = 2
       ·simp only [c3, c4, c5, Int.lt_irrefl, w_af_j2, w_af_j2b, w_af_j3, w_af_j3b, Bool.true_eq_false, or_self, and_self, ruS, ruL, ruE, Nat.reduceAdd, reduceIte, Int.reduceLT, Int.reduceLE, Int.reduceEq, Int.reduceNeg, Int.reduceAdd, Int.reduceSub, Nat.reduceLeDiff, Nat.reduceLT]
       ·simp only [c3, c4, c5, Int.lt_irrefl, w_af_j2, w_af_j2b, w_af_j3, w_af_j3b, Bool.true_eq_false, or_self, and_false, ruS, ruL, ruE, Nat.reduceAdd, reduceIte, Int.reduceLT, Int.reduceLE, Int.reduceEq, Int.reduceNeg, Int.reduceAdd, Int.reduceSub, Nat.reduceLeDiff, Nat.reduceLT]
      ·simp only [c3, c4, w_af_j2, w_af_j2b, w_af_j3, w_af_j3b, Bool.true_eq_false, or_self, false_and, ruS, ruL, ruE, Nat.reduceAdd, reduceIte, Int.reduceLT, Int.reduceLE, Int.reduceEq, Int.reduceNeg, Int.reduceAdd, Int.reduceSub, Nat.reduceLeDiff, Nat.reduceLT]
 by_cases c1 : a.kd = 1
 ·simp only [c1, ruS, ruL, ruE, Nat.reduceAdd, reduceIte, Int.reduceLT, Int.reduceLE, Int.reduceEq, Int.reduceNeg, Int.reduceAdd, Int.reduceSub, Nat.reduceLeDiff, Nat.reduceLT]
  exact rest true (by simp [c1])
 ·simp only [c1, ruS, ruL, ruE, Nat.reduceAdd, reduceIte, Int.reduceLT, Int.reduceLE, Int.reduceEq, Int.reduceNeg, Int.reduceAdd, Int.reduceSub, Nat.reduceLeDiff, Nat.reduceLT]
  rw [ldAx hd (show sub _ 0 1 false = some (.int .i64 a.kd) from rfl)]
  by_cases c3 : a.kd = 3
  ·simp only [c3, ruS, ruL, ruE, Nat.reduceAdd, reduceIte, Int.reduceLT, Int.reduceLE, Int.reduceEq, Int.reduceNeg, Int.reduceAdd, Int.reduceSub, Nat.reduceLeDiff, Nat.reduceLT]
   rw [ldAx hd (show sub _ 4 1 false = some (.int .i64 a.old) from rfl)]
   by_cases c4 : ceV a.cell = a.old
   ·simp only [c4, ne_eq, not_true_eq_false, ruS, ruL, ruE, Nat.reduceAdd, reduceIte, Int.reduceLT, Int.reduceLE, Int.reduceEq, Int.reduceNeg, Int.reduceAdd, Int.reduceSub, Nat.reduceLeDiff, Nat.reduceLT]
    rw [← c4]
    exact rest false (by simp [c1, c4])
   ·simp only [c4, ne_eq, not_false_eq_true, ruS, ruL, ruE, Nat.reduceAdd, reduceIte, Int.reduceLT, Int.reduceLE, Int.reduceEq, Int.reduceNeg, Int.reduceAdd, Int.reduceSub, Nat.reduceLeDiff, Nat.reduceLT]
    exact rest true (by simp [c3, c4])
  ·simp only [c3, ruS, ruL, ruE, Nat.reduceAdd, reduceIte, Int.reduceLT, Int.reduceLE, Int.reduceEq, Int.reduceNeg, Int.reduceAdd, Int.reduceSub, Nat.reduceLeDiff, Nat.reduceLT]
   exact rest false (by simp [c1, c3])
end Go.Fl
namespace Go.Fl
open Go
set_option linter.unusedVariables false
set_option linter.unusedSimpArgs false
variable {N : Nm} {A B : Ar} {σ : Mem} {K : Value → Mem → Prop} {C : Cf} {who : Int}
def Ac.step (C : Cf) (who : Int) (A : Ar) (a : Ac) : Bool × Ac × Ar :=
 if a.pc = 0 then
  if hdOk a.n = false ∨ C.S ≤ hdSl a.n then (true, ({ a with hs := hdSl a.n, hg := hdGe a.n } : Ac).fin 3 0 A.s, A)
  else if lives (A.w (C.slot (hdSl a.n))) (hdGe a.n) then (false, { a with hs := hdSl a.n, hg := hdGe a.n, w := A.w (C.slot (hdSl a.n)), seen := ((A.by who).load (C.slot (hdSl a.n))).s, pc := 1 }, (A.by who).load (C.slot (hdSl a.n)))
  else (true, ({ a with hs := hdSl a.n, hg := hdGe a.n, w := A.w (C.slot (hdSl a.n)), seen := ((A.by who).load (C.slot (hdSl a.n))).s, pc := 1 } : Ac).fin 3 0 ((A.by who).load (C.slot (hdSl a.n))).s, (A.by who).load (C.slot (hdSl a.n)))
 else if a.pc = 1 then
  if hdO (A.w (slA a.w)) ≠ a.own then (true, ({ a with size := hdS (A.w (slA a.w)), pc := 2 } : Ac).fin 3 0 ((A.by who).load (slA a.w)).s, (A.by who).load (slA a.w))
  else if a.ix < 0 ∨ hdS (A.w (slA a.w)) ≤ a.ix then (true, ({ a with size := hdS (A.w (slA a.w)), pc := 2 } : Ac).fin 4 0 a.seen, (A.by who).load (slA a.w))
  else (false, { a with size := hdS (A.w (slA a.w)), pc := 2 }, (A.by who).load (slA a.w))
 else if a.pc = 2 then
  (false, { a with cell := A.w a.at', rd := ((A.by who).load a.at').s, pc := ({ a with cell := A.w a.at' } : Ac).nxt }, (A.by who).load a.at')
 else if a.pc = 3 then
  (false, { a with pc := 0 }, (A.by who).cas (C.slot a.hs) a.w (putSlot 1 (slA a.w) (slG a.w) (slV a.w + 1)))
 else if a.pc = 5 then
  if A.w a.at' = a.cell then (true, ({ a with pc := 0 } : Ac).fin 0 (ceV a.cell) ((A.by who).cas a.at' a.cell (putCell a.v false 0)).s, (A.by who).cas a.at' a.cell (putCell a.v false 0))
  else (false, { a with pc := 0 }, (A.by who).cas a.at' a.cell (putCell a.v false 0))
 else
  if lives (A.w (C.slot a.hs)) a.hg then
   if slA (A.w (C.slot a.hs)) = slA a.w then (true, a.fin (if a.kd = 3 then 8 else 0) (ceV a.cell) a.rd, (A.by who).load (C.slot a.hs))
   else (false, { a with pc := 0 }, (A.by who).load (C.slot a.hs))
  else (true, a.fin 3 0 ((A.by who).load (C.slot a.hs)).s, (A.by who).load (C.slot a.hs))
structure Ac.fit (C : Cf) (A : Ar) (a : Ac) : Prop where
 pc : 0 ≤ a.pc ∧ a.pc ≤ 6
 n : 0 ≤ a.n ∧ a.n < 18446744073709551616
 hs : 0 ≤ a.hs ∧ a.hs < C.S
 w : 0 ≤ a.w ∧ a.w < 18446744073709551616
 cell : 0 ≤ a.cell ∧ a.cell < 18446744073709551616
 a1 : a.pc = 1 → slA a.w < A.n
 a2 : a.pc = 2 ∨ a.pc = 5 → 0 ≤ a.at' ∧ a.at' < A.n
 bd : (A.n : Int) ≤ 200000000
theorem c_Ac0 (hN : N.ok) (hC : C.ok) (hA : isA N A σ) {p : Nat} {a : Ac} (hp : σ.get p = some ⟨a.l, true⟩) (hd : p ∉ N.l) (hw : ∀ i, 0 ≤ A.w i ∧ A.w i < 18446744073709551616) (hn : C.len ≤ A.n) (hf : a.fit C A) (h : a.pc = 0)
  (hk : ∀ τ, isA N (a.step C who A).2.2 τ → τ.get p = some ⟨(a.step C who A).2.1.l, true⟩ → Keep (p :: N.l) σ τ → K (.bool (a.step C who A).1) τ) :
  s_ab [.pointer (some ⟨p, 0, none⟩), N.env C who] K σ := by
 have hT := hC.T; have hS := hC.S; have hC3 := hC.C; have hl := len_bd hC
 have hch : C.chunk C.C = 6 + C.T + 2 * C.S + 3 * C.C := rfl
 have h1 := hf.n
 obtain ⟨b1, b2⟩ := hdSl_bd h1.1
 rw [hA.obj hp]
 have g2 : ∀ (k : Nat) (x y : Int), gStore 2 [.pointer (some ⟨k, 0, some 0⟩), .agg #[.int .i64 x, .int .i64 y]] [.int .i64 0, .int .i64 0] = some [.int .i64 x, .int .i64 y] := fun _ _ _ => rfl
 have s2 : ∀ x y : Value, sub [x, y] 0 2 true = some (.agg #[x, y]) := fun _ _ => rfl
 unfold Ac.step at hk
 rw [if_pos h] at hk
 simp only [s_ab, w_ab, ruS, ruL, ruE, Nat.reduceAdd, reduceIte, Int.reduceLT, Int.reduceLE, Int.reduceEq, Int.reduceNeg, Int.reduceAdd, Int.reduceSub, Nat.reduceLeDiff, Nat.reduceLT]
 rw [ldAx hd (show sub _ 8 1 false = some (.int .i64 a.pc) from rfl)]
 simp only [h, ruS, ruL, ruE, Nat.reduceAdd, reduceIte, Int.reduceLT, Int.reduceLE, Int.reduceEq, Int.reduceNeg, Int.reduceAdd, Int.reduceSub, Nat.reduceLeDiff, Nat.reduceLT]
 rw [ldAx hd (show sub _ 1 1 false = some (.int .u64 a.n) from rfl), c_wHandleG h1.1 h1.2]
 simp only [g2, s2, ruS, ruL, ruE, Nat.reduceAdd, reduceIte, Int.reduceLT, Int.reduceLE, Int.reduceEq, Int.reduceNeg, Int.reduceAdd, Int.reduceSub, Nat.reduceLeDiff, Nat.reduceLT]
 have st2 : ∀ K : Value → Mem → Prop, hStore 2 [.pointer (some ⟨p, 6, none⟩), .agg #[.int .i64 (hdSl a.n), .int .i64 (hdGe a.n)]] K (putA N A (σ.set p ⟨a.l, true⟩)) = K undef (putA N A (σ.set p ⟨({ a with hs := hdSl a.n, hg := hdGe a.n } : Ac).l, true⟩)) :=
  fun K => stAxa (a := a) { a with hs := hdSl a.n, hg := hdGe a.n } (c := [.int .i64 (hdSl a.n), .int .i64 (hdGe a.n)]) (sz := 2) (k := 6) hd rfl rfl (by decide) rfl
 rw [st2]
 cases hO : hdOk a.n with
 | false =>
  rw [if_pos (.inl hO)] at hk
  simp only [w_ab_j2, w_ab_j2b, ruS, ruL, ruE, Nat.reduceAdd, reduceIte, Int.reduceLT, Int.reduceLE, Int.reduceEq, Int.reduceNeg, Int.reduceAdd, Int.reduceSub, Nat.reduceLeDiff, Nat.reduceLT]
  rw [c_Now, c_Aend hd]
  exact behind hN hd hk
 | true =>
  by_cases hs : C.S ≤ hdSl a.n
  ·rw [if_pos (.inr hs)] at hk
   simp only [hs, w_ab_j2, w_ab_j2b, ruS, ruL, ruE, Nat.reduceAdd, reduceIte, Int.reduceLT, Int.reduceLE, Int.reduceEq, Int.reduceNeg, Int.reduceAdd, Int.reduceSub, Nat.reduceLeDiff, Nat.reduceLT]
   rw [c_Now, c_Aend hd]
   exact behind hN hd hk
  ·rw [if_neg (fun q => by rcases q with q | q; rw [hO] at q; cases q; exact hs q)] at hk
   have hsb : 0 ≤ C.slot (hdSl a.n) ∧ C.slot (hdSl a.n) < A.n := by unfold Cf.slot; omega
   have hwa := hw (C.slot (hdSl a.n))
   simp only [hs, w_ab_j2, w_ab_j2b, ruS, ruL, ruE, Nat.reduceAdd, reduceIte, Int.reduceLT, Int.reduceLE, Int.reduceEq, Int.reduceNeg, Int.reduceAdd, Int.reduceSub, Nat.reduceLeDiff, Nat.reduceLT]
   rw [c_Slot hC b1.1 (by omega), c_Load hN hsb.1 hsb.2, stAx { a with hs := hdSl a.n, hg := hdGe a.n, w := A.w (C.slot (hdSl a.n)) } hd rfl rfl (by decide) rfl]
   rw [c_Now]
   rw [stAx { a with hs := hdSl a.n, hg := hdGe a.n, w := A.w (C.slot (hdSl a.n)), seen := ((A.by who).load (C.slot (hdSl a.n))).s } hd rfl rfl (by decide) rfl]
   rw [stAx { a with hs := hdSl a.n, hg := hdGe a.n, w := A.w (C.slot (hdSl a.n)), seen := ((A.by who).load (C.slot (hdSl a.n))).s, pc := 1 } hd rfl rfl (by decide) rfl]
   rw [ldAx (a := { a with hs := hdSl a.n, hg := hdGe a.n, w := A.w (C.slot (hdSl a.n)), seen := ((A.by who).load (C.slot (hdSl a.n))).s, pc := 1 }) hd (show sub _ 9 1 false = some (.int .u64 (A.w (C.slot (hdSl a.n)))) from rfl), c_wSlot hwa.1 hwa.2]
   simp only [s2, ruS, ruL, ruE, Nat.reduceAdd, reduceIte, Int.reduceLT, Int.reduceLE, Int.reduceEq, Int.reduceNeg, Int.reduceAdd, Int.reduceSub, Nat.reduceLeDiff, Nat.reduceLT]
   rw [c_Live]
   by_cases hl' : lives (A.w (C.slot (hdSl a.n))) (hdGe a.n)
   ·have e : decide ((slS (A.w (C.slot (hdSl a.n))) = 1 ∨ slS (A.w (C.slot (hdSl a.n))) = 2 ∨ slS (A.w (C.slot (hdSl a.n))) = 4) ∧ slG (A.w (C.slot (hdSl a.n))) = hdGe a.n) = true := decide_eq_true hl'
    rw [if_pos hl'] at hk
    simp only [e, w_ab_j1, w_ab_j1b, ruS, ruL, ruE, Nat.reduceAdd, reduceIte, Int.reduceLT, Int.reduceLE, Int.reduceEq, Int.reduceNeg, Int.reduceAdd, Int.reduceSub, Nat.reduceLeDiff, Nat.reduceLT]
    exact behind hN hd hk
   ·have e : decide ((slS (A.w (C.slot (hdSl a.n))) = 1 ∨ slS (A.w (C.slot (hdSl a.n))) = 2 ∨ slS (A.w (C.slot (hdSl a.n))) = 4) ∧ slG (A.w (C.slot (hdSl a.n))) = hdGe a.n) = false := decide_eq_false hl'
    rw [if_neg hl'] at hk
    simp only [e, ruS, ruL, ruE, Nat.reduceAdd, reduceIte, Int.reduceLT, Int.reduceLE, Int.reduceEq, Int.reduceNeg, Int.reduceAdd, Int.reduceSub, Nat.reduceLeDiff, Nat.reduceLT]
    rw [c_Now, c_Aend hd]
    exact behind hN hd hk
theorem c_Ac1 (hN : N.ok) (hC : C.ok) (hA : isA N A σ) {p : Nat} {a : Ac} (hp : σ.get p = some ⟨a.l, true⟩) (hd : p ∉ N.l) (hw : ∀ i, 0 ≤ A.w i ∧ A.w i < 18446744073709551616) (hf : a.fit C A) (h : a.pc = 1)
  (hk : ∀ τ, isA N (a.step C who A).2.2 τ → τ.get p = some ⟨(a.step C who A).2.1.l, true⟩ → Keep (p :: N.l) σ τ → K (.bool (a.step C who A).1) τ) :
  s_ab [.pointer (some ⟨p, 0, none⟩), N.env C who] K σ := by
 have hb := slA_bd a.w
 have hwa := hw (slA a.w)
 have h3 := hf.w
 have h4 := hf.a1 h
 rw [hA.obj hp]
 have g5 : ∀ (k : Nat) (x y z w : Int) (b : Bool), gStore 5 [.pointer (some ⟨k, 0, some 0⟩), .agg #[.int .i64 x, .int .i64 y, .int .i64 z, .int .i64 w, .bool b]] [.int .i64 0, .int .i64 0, .int .i64 0, .int .i64 0, .bool false] = some [.int .i64 x, .int .i64 y, .int .i64 z, .int .i64 w, .bool b] := fun _ _ _ _ _ _ => rfl
 unfold Ac.step at hk
 rw [if_neg (by omega), if_pos h] at hk
 simp only [s_ab, w_ab, ruS, ruL, ruE, Nat.reduceAdd, reduceIte, Int.reduceLT, Int.reduceLE, Int.reduceEq, Int.reduceNeg, Int.reduceAdd, Int.reduceSub, Nat.reduceLeDiff, Nat.reduceLT]
 rw [ldAx hd (show sub _ 8 1 false = some (.int .i64 a.pc) from rfl)]
 simp only [h, ruS, ruL, ruE, Nat.reduceAdd, reduceIte, Int.reduceLT, Int.reduceLE, Int.reduceEq, Int.reduceNeg, Int.reduceAdd, Int.reduceSub, Nat.reduceLeDiff, Nat.reduceLT]
 rw [ldAx hd (show sub _ 9 1 false = some (.int .u64 a.w) from rfl), c_wSlot h3.1 h3.2]
 simp only [xFldV, List.toList_toArray, ruS, ruL, ruE, Nat.reduceAdd, reduceIte, Int.reduceLT, Int.reduceLE, Int.reduceEq, Int.reduceNeg, Int.reduceAdd, Int.reduceSub, Nat.reduceLeDiff, Nat.reduceLT]
 rw [c_Load hN hb.1 h4, c_wHead hwa.1 hwa.2]
 simp only [g5, ruS, ruL, ruE, Nat.reduceAdd, reduceIte, Int.reduceLT, Int.reduceLE, Int.reduceEq, Int.reduceNeg, Int.reduceAdd, Int.reduceSub, Nat.reduceLeDiff, Nat.reduceLT]
 rw [stAx { a with size := hdS (A.w (slA a.w)) } hd rfl rfl (by decide) rfl, stAx { a with size := hdS (A.w (slA a.w)), pc := 2 } hd rfl rfl (by decide) rfl,
  ldAx (a := { a with size := hdS (A.w (slA a.w)), pc := 2 }) hd (show sub _ 5 1 false = some (.bool a.own) from rfl)]
 by_cases e : hdO (A.w (slA a.w)) = a.own
 ·rw [if_neg (fun q => q e)] at hk
  simp only [e, xNeBB, beq_self_eq_true, ruS, ruL, ruE, Nat.reduceAdd, reduceIte, Int.reduceLT, Int.reduceLE, Int.reduceEq, Int.reduceNeg, Int.reduceAdd, Int.reduceSub, Nat.reduceLeDiff, Nat.reduceLT]
  rw [ldAx (a := { a with size := hdS (A.w (slA a.w)), pc := 2 }) hd (show sub _ 2 1 false = some (.int .i64 a.ix) from rfl)]
  by_cases c1 : a.ix < 0
  ·rw [if_pos (.inl c1)] at hk
   simp only [c1, w_ab_j3, w_ab_j3b, ruS, ruL, ruE, Nat.reduceAdd, reduceIte, Int.reduceLT, Int.reduceLE, Int.reduceEq, Int.reduceNeg, Int.reduceAdd, Int.reduceSub, Nat.reduceLeDiff, Nat.reduceLT]
   rw [ldAx (a := { a with size := hdS (A.w (slA a.w)), pc := 2 }) hd (show sub _ 11 1 false = some (.int .i64 a.seen) from rfl), c_Aend hd]
   exact behind hN hd hk
  ·simp only [c1, ruS, ruL, ruE, Nat.reduceAdd, reduceIte, Int.reduceLT, Int.reduceLE, Int.reduceEq, Int.reduceNeg, Int.reduceAdd, Int.reduceSub, Nat.reduceLeDiff, Nat.reduceLT]
   rw [ldAx (a := { a with size := hdS (A.w (slA a.w)), pc := 2 }) hd (show sub _ 2 1 false = some (.int .i64 a.ix) from rfl)]
   by_cases c2 : hdS (A.w (slA a.w)) ≤ a.ix
   ·rw [if_pos (.inr c2)] at hk
    simp only [c2, w_ab_j3, w_ab_j3b, ruS, ruL, ruE, Nat.reduceAdd, reduceIte, Int.reduceLT, Int.reduceLE, Int.reduceEq, Int.reduceNeg, Int.reduceAdd, Int.reduceSub, Nat.reduceLeDiff, Nat.reduceLT]
    rw [ldAx (a := { a with size := hdS (A.w (slA a.w)), pc := 2 }) hd (show sub _ 11 1 false = some (.int .i64 a.seen) from rfl), c_Aend hd]
    exact behind hN hd hk
   ·rw [if_neg (by rintro (q | q); exact c1 q; exact c2 q)] at hk
    simp only [c2, w_ab_j3, w_ab_j3b, w_ab_j1, w_ab_j1b, ruS, ruL, ruE, Nat.reduceAdd, reduceIte, Int.reduceLT, Int.reduceLE, Int.reduceEq, Int.reduceNeg, Int.reduceAdd, Int.reduceSub, Nat.reduceLeDiff, Nat.reduceLT]
    exact behind hN hd hk
 ·rw [if_pos e] at hk
  have e' : (hdO (A.w (slA a.w)) == a.own) = false := by simpa using e
  simp only [e', xNeBB, ruS, ruL, ruE, Nat.reduceAdd, reduceIte, Int.reduceLT, Int.reduceLE, Int.reduceEq, Int.reduceNeg, Int.reduceAdd, Int.reduceSub, Nat.reduceLeDiff, Nat.reduceLT]
  rw [c_Now, c_Aend hd]
  exact behind hN hd hk
end Go.Fl
namespace Go.Fl
open Go
set_option linter.unusedVariables false
set_option linter.unusedSimpArgs false
variable {N : Nm} {A B : Ar} {σ : Mem} {K : Value → Mem → Prop} {C : Cf} {who : Int}
theorem c_Ac2 (hN : N.ok) (hC : C.ok) (hA : isA N A σ) {p : Nat} {a : Ac} (hp : σ.get p = some ⟨a.l, true⟩) (hd : p ∉ N.l) (hw : ∀ i, 0 ≤ A.w i ∧ A.w i < 18446744073709551616) (hf : a.fit C A) (h : a.pc = 2)
  (k0 : (a.step C who A).2.1.pc ≠ 4 → ∀ τ, isA N (a.step C who A).2.2 τ → τ.get p = some ⟨(a.step C who A).2.1.l, true⟩ → Keep (p :: N.l) σ τ → K (.bool (a.step C who A).1) τ)
  (k1 : (a.step C who A).2.1.pc = 4 → ∀ q τ, σ.get q = none → q ≠ p → isA N (a.step C who A).2.2 τ → τ.get p = some ⟨({ (a.step C who A).2.1 with help := some q } : Ac).l, true⟩ → τ.get q = some ⟨(Hl.new a.hs a.w a.size).l, true⟩ → Keep (p :: N.l) σ τ → K (.bool (a.step C who A).1) τ) :
  s_ab [.pointer (some ⟨p, 0, none⟩), N.env C who] K σ := by
 have hbd := hf.bd
 have h2 := hf.a2 (.inl h)
 have h3 := hf.w
 have hwa := hw a.at'
 rw [hA.obj hp]
 unfold Ac.step at k0 k1
 rw [if_neg (by omega), if_neg (by omega), if_pos h] at k0 k1
 simp only [s_ab, w_ab, ruS, ruL, ruE, Nat.reduceAdd, reduceIte, Int.reduceLT, Int.reduceLE, Int.reduceEq, Int.reduceNeg, Int.reduceAdd, Int.reduceSub, Nat.reduceLeDiff, Nat.reduceLT]
 rw [ldAx hd (show sub _ 8 1 false = some (.int .i64 a.pc) from rfl)]
 simp only [h, ruS, ruL, ruE, Nat.reduceAdd, reduceIte, Int.reduceLT, Int.reduceLE, Int.reduceEq, Int.reduceNeg, Int.reduceAdd, Int.reduceSub, Nat.reduceLeDiff, Nat.reduceLT]
 rw [c_Aat hd h3 (by omega), c_Load hN h2.1 h2.2, stAx { a with cell := A.w a.at' } hd rfl rfl (by decide) rfl, c_Now, c_Anext (a := { a with cell := A.w a.at' }) hd h3 hwa]
 rw [stAx { a with cell := A.w a.at', rd := ((A.by who).load a.at').s } hd rfl rfl (by decide) rfl]
 rw [stAx { a with cell := A.w a.at', rd := ((A.by who).load a.at').s, pc := ({ a with cell := A.w a.at' } : Ac).nxt } hd rfl rfl (by decide) rfl]
 rw [ldAx (a := { a with cell := A.w a.at', rd := ((A.by who).load a.at').s, pc := ({ a with cell := A.w a.at' } : Ac).nxt }) hd (show sub _ 8 1 false = some (.int .i64 ({ a with cell := A.w a.at' } : Ac).nxt) from rfl)]
 by_cases e : ({ a with cell := A.w a.at' } : Ac).nxt = 4
 ·replace k1 := k1 e
  simp only [e, ruS, ruL, ruE, Nat.reduceAdd, reduceIte, Int.reduceLT, Int.reduceLE, Int.reduceEq, Int.reduceNeg, Int.reduceAdd, Int.reduceSub, Nat.reduceLeDiff, Nat.reduceLT]
  rw [e] at k1
  rw [ldAx (a := { a with cell := A.w a.at', rd := ((A.by who).load a.at').s, pc := 4 }) hd (show sub _ 6 1 false = some (.int .i64 a.hs) from rfl), ldAx (a := { a with cell := A.w a.at', rd := ((A.by who).load a.at').s, pc := 4 }) hd (show sub _ 9 1 false = some (.int .u64 a.w) from rfl),
   ldAx (a := { a with cell := A.w a.at', rd := ((A.by who).load a.at').s, pc := 4 }) hd (show sub _ 13 1 false = some (.int .i64 a.size) from rfl)]
  refine behind (K := fun _ σ => s_az [.int .i64 a.hs, .int .u64 a.w, .int .i64 a.size] _ σ) (v := undef) hN hd fun υ u1 u2 u3 => ?_
  refine c_NewHelp fun id ω hid gid x => ?_
  have hx1 := u1.ext x
  have hx2 := x _ _ u2
  have ip : id ≠ p := by rintro rfl; rw [u2] at hid; cases hid
  have inn := u1.new hid
  have ids : σ.get id = none := by
   cases e : σ.get id with
   | none => rfl
   | some b => rw [u3 id b e (by simp only [List.mem_cons, not_or]; exact ⟨ip, inn⟩)] at hid; cases hid
  rw [hx1.obj hx2, stAx { a with cell := A.w a.at', rd := ((A.by who).load a.at').s, pc := 4, help := some id } hd rfl rfl (by decide) rfl]
  simp only [w_ab_j1, w_ab_j1b, ruS, ruL, ruE, Nat.reduceAdd, reduceIte, Int.reduceLT, Int.reduceLE, Int.reduceEq, Int.reduceNeg, Int.reduceAdd, Int.reduceSub, Nat.reduceLeDiff, Nat.reduceLT]
  refine behind hN hd fun ρ r1 r2 r3 => k1 id ρ ids ip r1 r2 ?_ ((u3.trans x.keep).trans r3)
  exact r3 id _ gid (by simp only [List.mem_cons, not_or]; exact ⟨ip, inn⟩)
 ·replace k0 := k0 e
  simp only [e, w_ab_j1, w_ab_j1b, ruS, ruL, ruE, Nat.reduceAdd, reduceIte, Int.reduceLT, Int.reduceLE, Int.reduceEq, Int.reduceNeg, Int.reduceAdd, Int.reduceSub, Nat.reduceLeDiff, Nat.reduceLT]
  exact behind hN hd k0
theorem c_Ac3 (hN : N.ok) (hC : C.ok) (hA : isA N A σ) {p : Nat} {a : Ac} (hp : σ.get p = some ⟨a.l, true⟩) (hd : p ∉ N.l) (hn : C.len ≤ A.n) (hf : a.fit C A) (h : a.pc = 3)
  (hk : ∀ τ, isA N (a.step C who A).2.2 τ → τ.get p = some ⟨(a.step C who A).2.1.l, true⟩ → Keep (p :: N.l) σ τ → K (.bool (a.step C who A).1) τ) :
  s_ab [.pointer (some ⟨p, 0, none⟩), N.env C who] K σ := by
 have hT := hC.T; have hS := hC.S; have hC3 := hC.C; have hl := len_bd hC
 have hch : C.chunk C.C = 6 + C.T + 2 * C.S + 3 * C.C := rfl
 have h3 := hf.w
 have h2 := hf.hs
 have hV := slV_bd a.w
 have hsb : 0 ≤ C.slot a.hs ∧ C.slot a.hs < A.n := by unfold Cf.slot; omega
 have g4 : ∀ (k : Nat) (x y z w x' y' z' w' : Int), gStore 4 [.pointer (some ⟨k, 0, some 0⟩), .agg #[.int .i64 x, .int .i64 y, .int .i64 z, .int .i64 w]] [.int .i64 x', .int .i64 y', .int .i64 z', .int .i64 w'] = some [.int .i64 x, .int .i64 y, .int .i64 z, .int .i64 w] := fun _ _ _ _ _ _ _ _ _ => rfl
 have g0 : ∀ (k : Nat) (v x' y' z' w' : Int), gStore 1 [.pointer (some ⟨k, 0, some 0⟩), .int .i64 v] [.int .i64 x', .int .i64 y', .int .i64 z', .int .i64 w'] = some [.int .i64 v, .int .i64 y', .int .i64 z', .int .i64 w'] := fun _ _ _ _ _ _ => rfl
 have g3 : ∀ (k : Nat) (v x' y' z' w' : Int), gStore 1 [.pointer (some ⟨k, 3, some 0⟩), .int .i64 v] [.int .i64 x', .int .i64 y', .int .i64 z', .int .i64 w'] = some [.int .i64 x', .int .i64 y', .int .i64 z', .int .i64 v] := fun _ _ _ _ _ _ => rfl
 rw [hA.obj hp]
 unfold Ac.step at hk
 rw [if_neg (by omega), if_neg (by omega), if_neg (by omega), if_pos h] at hk
 simp only [s_ab, w_ab, ruS, ruL, ruE, Nat.reduceAdd, reduceIte, Int.reduceLT, Int.reduceLE, Int.reduceEq, Int.reduceNeg, Int.reduceAdd, Int.reduceSub, Nat.reduceLeDiff, Nat.reduceLT]
 rw [ldAx hd (show sub _ 8 1 false = some (.int .i64 a.pc) from rfl)]
 simp only [h, ruS, ruL, ruE, Nat.reduceAdd, reduceIte, Int.reduceLT, Int.reduceLE, Int.reduceEq, Int.reduceNeg, Int.reduceAdd, Int.reduceSub, Nat.reduceLeDiff, Nat.reduceLT]
 rw [ldAx hd (show sub _ 9 1 false = some (.int .u64 a.w) from rfl), c_wSlot h3.1 h3.2]
 simp only [g4, g0, g3, ruS, ruL, ruE, Nat.reduceAdd, reduceIte, Int.reduceLT, Int.reduceLE, Int.reduceEq, Int.reduceNeg, Int.reduceAdd, Int.reduceSub, Nat.reduceLeDiff, Nat.reduceLT]
 rw [IntWalk.i64_in (slV a.w + 1) (by omega)]
 rw [ldAx hd (show sub _ 6 1 false = some (.int .i64 a.hs) from rfl), c_Slot hC h2.1 (by omega), ldAx hd (show sub _ 9 1 false = some (.int .u64 a.w) from rfl)]
 simp only [sub4, ruS, ruL, ruE, Nat.reduceAdd, reduceIte, Int.reduceLT, Int.reduceLE, Int.reduceEq, Int.reduceNeg, Int.reduceAdd, Int.reduceSub, Nat.reduceLeDiff, Nat.reduceLT]
 rw [c_PutSlot, c_Cas hN hsb.1 hsb.2, stAx { a with pc := 0 } hd rfl rfl (by decide) rfl]
 simp only [w_ab_j1, w_ab_j1b, ruS, ruL, ruE, Nat.reduceAdd, reduceIte, Int.reduceLT, Int.reduceLE, Int.reduceEq, Int.reduceNeg, Int.reduceAdd, Int.reduceSub, Nat.reduceLeDiff, Nat.reduceLT]
 exact behind hN hd hk
theorem c_Ac4 (hN : N.ok) (hC : C.ok) (hA : isA N A σ) {p q : Nat} {a : Ac} {t : Hl} (hp : σ.get p = some ⟨a.l, true⟩) (hd : p ∉ N.l) (hq : σ.get q = some ⟨[] ++ t.l ++ [], true⟩) (hqd : q ∉ N.l) (hqp : q ≠ p) (hw : ∀ i, 0 ≤ A.w i ∧ A.w i < 18446744073709551616) (hn : C.len ≤ A.n)
  (h : a.pc = 4) (ha : a.help = some q) (hf : t.fit C)
  (k0 : (t.step C who A).1 = false → ∀ τ, isA N (t.step C who A).2.2 τ → τ.get p = some ⟨a.l, true⟩ → τ.get q = some ⟨[] ++ (t.step C who A).2.1.l ++ [], true⟩ → Keep (q :: p :: N.l) σ τ → K (.bool false) τ)
  (k2 : (t.step C who A).1 = true → ∀ τ, isA N (t.step C who A).2.2 τ → τ.get p = some ⟨({ a with pc := 0 } : Ac).l, true⟩ → Keep (q :: p :: N.l) σ τ → K (.bool false) τ) :
  s_ab [.pointer (some ⟨p, 0, none⟩), N.env C who] K σ := by
 have hpL : ∀ i ∈ p :: N.l, i ∈ q :: p :: N.l := fun i hi => List.mem_cons_of_mem _ hi
 have hqL : ∀ i ∈ q :: N.l, i ∈ q :: p :: N.l := fun i hi => by rcases List.mem_cons.1 hi with rfl | hi <;> simp [*]
 rw [hA.obj hp]
 simp only [s_ab, w_ab, ruS, ruL, ruE, Nat.reduceAdd, reduceIte, Int.reduceLT, Int.reduceLE, Int.reduceEq, Int.reduceNeg, Int.reduceAdd, Int.reduceSub, Nat.reduceLeDiff, Nat.reduceLT]
 rw [ldAx hd (show sub _ 8 1 false = some (.int .i64 a.pc) from rfl)]
 simp only [h, ruS, ruL, ruE, Nat.reduceAdd, reduceIte, Int.reduceLT, Int.reduceLE, Int.reduceEq, Int.reduceNeg, Int.reduceAdd, Int.reduceSub, Nat.reduceLeDiff, Nat.reduceLT]
 rw [ldAx hd (show sub _ 14 1 false = some (obP a.help) from rfl), ha, obP_s, ← hA.obj hp]
 refine c_Help_Step hN hC hA (t := t) (pre := []) (post := []) hq hqd hw hn hf fun τ hA' hq' hK => ?_
 have hp' : τ.get p = some ⟨a.l, true⟩ := hK.get hp (by simp only [List.mem_cons, not_or]; exact ⟨fun e => hqp e.symm, hd⟩)
 have hK2 := hK.mono hqL
 generalize t.step C who A = r at *
 obtain ⟨d, t', A'⟩ := r
 dsimp only at *
 cases d with
 | false => simp only [w_ab_j1, w_ab_j1b, ruS, ruL, ruE, Nat.reduceAdd, reduceIte, Int.reduceLT, Int.reduceLE, Int.reduceEq, Int.reduceNeg, Int.reduceAdd, Int.reduceSub, Nat.reduceLeDiff, Nat.reduceLT]; exact k0 rfl τ hA' hp' hq' hK2
 | true =>
  simp only [ruS, ruL, ruE, Nat.reduceAdd, reduceIte, Int.reduceLT, Int.reduceLE, Int.reduceEq, Int.reduceNeg, Int.reduceAdd, Int.reduceSub, Nat.reduceLeDiff, Nat.reduceLT]
  rw [hA'.obj hp', stAx { a with pc := 0 } hd rfl rfl (by decide) rfl]
  simp only [w_ab_j1, w_ab_j1b, ruS, ruL, ruE, Nat.reduceAdd, reduceIte, Int.reduceLT, Int.reduceLE, Int.reduceEq, Int.reduceNeg, Int.reduceAdd, Int.reduceSub, Nat.reduceLeDiff, Nat.reduceLT]
  exact behind hN hd fun υ u1 u2 u3 => k2 rfl υ u1 u2 (hK2.trans (u3.mono hpL))
theorem c_Ac5 (hN : N.ok) (hC : C.ok) (hA : isA N A σ) {p : Nat} {a : Ac} (hp : σ.get p = some ⟨a.l, true⟩) (hd : p ∉ N.l) (hf : a.fit C A) (h : a.pc = 5)
  (hk : ∀ τ, isA N (a.step C who A).2.2 τ → τ.get p = some ⟨(a.step C who A).2.1.l, true⟩ → Keep (p :: N.l) σ τ → K (.bool (a.step C who A).1) τ) :
  s_ab [.pointer (some ⟨p, 0, none⟩), N.env C who] K σ := by
 have hbd := hf.bd
 have h2 := hf.a2 (.inr h)
 have h3 := hf.w
 have h4 := hf.cell
 have b3 : ∀ (x : Int) (K : Value → Prop), xF (fBuild [(0, 1), (1, 1), (2, 1)] [.int .i64 0, .bool false, .int .i64 0] [0]) [.int .i64 x] K = K (.agg #[.int .i64 x, .bool false, .int .i64 0]) := fun _ K => nr rfl
 rw [hA.obj hp]
 unfold Ac.step at hk
 rw [if_neg (by omega), if_neg (by omega), if_neg (by omega), if_neg (by omega), if_pos h] at hk
 simp only [s_ab, w_ab, ruS, ruL, ruE, Nat.reduceAdd, reduceIte, Int.reduceLT, Int.reduceLE, Int.reduceEq, Int.reduceNeg, Int.reduceAdd, Int.reduceSub, Nat.reduceLeDiff, Nat.reduceLT]
 rw [ldAx hd (show sub _ 8 1 false = some (.int .i64 a.pc) from rfl)]
 simp only [h, ruS, ruL, ruE, Nat.reduceAdd, reduceIte, Int.reduceLT, Int.reduceLE, Int.reduceEq, Int.reduceNeg, Int.reduceAdd, Int.reduceSub, Nat.reduceLeDiff, Nat.reduceLT]
 rw [stAx { a with pc := 0 } hd rfl rfl (by decide) rfl, c_Aat (a := { a with pc := 0 }) hd h3 (by show 0 ≤ a.at' ∧ a.at' < _; omega)]
 rw [ldAx (a := { a with pc := 0 }) hd (show sub _ 10 1 false = some (.int .u64 a.cell) from rfl), ldAx (a := { a with pc := 0 }) hd (show sub _ 3 1 false = some (.int .i64 a.v) from rfl), b3, c_PutCell]
 rw [show ({ a with pc := 0 } : Ac).at' = a.at' from rfl, c_Cas hN h2.1 h2.2]
 by_cases e : A.w a.at' = a.cell
 ·rw [if_pos e] at hk
  simp only [e, ruS, ruL, ruE, Nat.reduceAdd, reduceIte, Int.reduceLT, Int.reduceLE, Int.reduceEq, Int.reduceNeg, Int.reduceAdd, Int.reduceSub, Nat.reduceLeDiff, Nat.reduceLT]
  rw [ldAx (a := { a with pc := 0 }) hd (show sub _ 10 1 false = some (.int .u64 a.cell) from rfl), c_wCell h4.1 h4.2]
  simp only [xFldV, List.toList_toArray, ruS, ruL, ruE, Nat.reduceAdd, reduceIte, Int.reduceLT, Int.reduceLE, Int.reduceEq, Int.reduceNeg, Int.reduceAdd, Int.reduceSub, Nat.reduceLeDiff, Nat.reduceLT]
  rw [c_Now, c_Aend hd]
  exact behind hN hd hk
 ·rw [if_neg e] at hk
  simp only [e, w_ab_j1, w_ab_j1b, ruS, ruL, ruE, Nat.reduceAdd, reduceIte, Int.reduceLT, Int.reduceLE, Int.reduceEq, Int.reduceNeg, Int.reduceAdd, Int.reduceSub, Nat.reduceLeDiff, Nat.reduceLT]
  exact behind hN hd hk
theorem c_Ac6 (hN : N.ok) (hC : C.ok) (hA : isA N A σ) {p : Nat} {a : Ac} (hp : σ.get p = some ⟨a.l, true⟩) (hd : p ∉ N.l) (hw : ∀ i, 0 ≤ A.w i ∧ A.w i < 18446744073709551616) (hn : C.len ≤ A.n) (hf : a.fit C A) (h : a.pc = 6)
  (hk : ∀ τ, isA N (a.step C who A).2.2 τ → τ.get p = some ⟨(a.step C who A).2.1.l, true⟩ → Keep (p :: N.l) σ τ → K (.bool (a.step C who A).1) τ) :
  s_ab [.pointer (some ⟨p, 0, none⟩), N.env C who] K σ := by
 have hT := hC.T; have hS := hC.S; have hC3 := hC.C; have hl := len_bd hC
 have hch : C.chunk C.C = 6 + C.T + 2 * C.S + 3 * C.C := rfl
 have h2 := hf.hs
 have h3 := hf.w
 have h4 := hf.cell
 have hsb : 0 ≤ C.slot a.hs ∧ C.slot a.hs < A.n := by unfold Cf.slot; omega
 have hwa := hw (C.slot a.hs)
 have g4 : ∀ (k : Nat) (x y z w x' y' z' w' : Int), gStore 4 [.pointer (some ⟨k, 0, some 0⟩), .agg #[.int .i64 x, .int .i64 y, .int .i64 z, .int .i64 w]] [.int .i64 x', .int .i64 y', .int .i64 z', .int .i64 w'] = some [.int .i64 x, .int .i64 y, .int .i64 z, .int .i64 w] := fun _ _ _ _ _ _ _ _ _ => rfl
 rw [hA.obj hp]
 unfold Ac.step at hk
 rw [if_neg (by omega), if_neg (by omega), if_neg (by omega), if_neg (by omega), if_neg (by omega)] at hk
 simp only [s_ab, w_ab, ruS, ruL, ruE, Nat.reduceAdd, reduceIte, Int.reduceLT, Int.reduceLE, Int.reduceEq, Int.reduceNeg, Int.reduceAdd, Int.reduceSub, Nat.reduceLeDiff, Nat.reduceLT]
 rw [ldAx hd (show sub _ 8 1 false = some (.int .i64 a.pc) from rfl)]
 simp only [h, s_ad, w_ad, ruS, ruL, ruE, Nat.reduceAdd, reduceIte, Int.reduceLT, Int.reduceLE, Int.reduceEq, Int.reduceNeg, Int.reduceAdd, Int.reduceSub, Nat.reduceLeDiff, Nat.reduceLT]
 rw [ldAx hd (show sub _ 6 1 false = some (.int .i64 a.hs) from rfl), c_Slot hC h2.1 (by omega), c_Load hN hsb.1 hsb.2, c_wSlot hwa.1 hwa.2]
 simp only [g4, ruS, ruL, ruE, Nat.reduceAdd, reduceIte, Int.reduceLT, Int.reduceLE, Int.reduceEq, Int.reduceNeg, Int.reduceAdd, Int.reduceSub, Nat.reduceLeDiff, Nat.reduceLT]
 rw [ldAx hd (show sub _ 10 1 false = some (.int .u64 a.cell) from rfl), c_wCell h4.1 h4.2]
 simp only [xFldV, List.toList_toArray, sub4, ruS, ruL, ruE, Nat.reduceAdd, reduceIte, Int.reduceLT, Int.reduceLE, Int.reduceEq, Int.reduceNeg, Int.reduceAdd, Int.reduceSub, Nat.reduceLeDiff, Nat.reduceLT]
 rw [ldAx hd (show sub _ 6 2 true = some (.agg #[.int .i64 a.hs, .int .i64 a.hg]) from rfl), c_Live]
 by_cases hl' : lives (A.w (C.slot a.hs)) a.hg
 ·have e : decide ((slS (A.w (C.slot a.hs)) = 1 ∨ slS (A.w (C.slot a.hs)) = 2 ∨ slS (A.w (C.slot a.hs)) = 4) ∧ slG (A.w (C.slot a.hs)) = a.hg) = true := decide_eq_true hl'
  rw [if_pos hl'] at hk
  simp only [e, ruS, ruL, ruE, Nat.reduceAdd, reduceIte, Int.reduceLT, Int.reduceLE, Int.reduceEq, Int.reduceNeg, Int.reduceAdd, Int.reduceSub, Nat.reduceLeDiff, Nat.reduceLT]
  rw [ldAx hd (show sub _ 9 1 false = some (.int .u64 a.w) from rfl), c_wSlot h3.1 h3.2]
  simp only [xFldV, List.toList_toArray, ruS, ruL, ruE, Nat.reduceAdd, reduceIte, Int.reduceLT, Int.reduceLE, Int.reduceEq, Int.reduceNeg, Int.reduceAdd, Int.reduceSub, Nat.reduceLeDiff, Nat.reduceLT]
  by_cases c1 : slA (A.w (C.slot a.hs)) = slA a.w
  ·rw [if_pos c1] at hk
   simp only [c1, ne_eq, not_true_eq_false, ruS, ruL, ruE, Nat.reduceAdd, reduceIte, Int.reduceLT, Int.reduceLE, Int.reduceEq, Int.reduceNeg, Int.reduceAdd, Int.reduceSub, Nat.reduceLeDiff, Nat.reduceLT]
   rw [ldAx hd (show sub _ 0 1 false = some (.int .i64 a.kd) from rfl)]
   by_cases c2 : a.kd = 3
   ·rw [if_pos c2] at hk
    simp only [c2, ruS, ruL, ruE, Nat.reduceAdd, reduceIte, Int.reduceLT, Int.reduceLE, Int.reduceEq, Int.reduceNeg, Int.reduceAdd, Int.reduceSub, Nat.reduceLeDiff, Nat.reduceLT]
    rw [ldAx hd (show sub _ 12 1 false = some (.int .i64 a.rd) from rfl), c_Aend hd]
    exact behind hN hd hk
   ·rw [if_neg c2] at hk
    simp only [c2, ruS, ruL, ruE, Nat.reduceAdd, reduceIte, Int.reduceLT, Int.reduceLE, Int.reduceEq, Int.reduceNeg, Int.reduceAdd, Int.reduceSub, Nat.reduceLeDiff, Nat.reduceLT]
    rw [ldAx hd (show sub _ 12 1 false = some (.int .i64 a.rd) from rfl), c_Aend hd]
    exact behind hN hd hk
  ·rw [if_neg c1] at hk
   simp only [c1, ne_eq, not_false_eq_true, ruS, ruL, ruE, Nat.reduceAdd, reduceIte, Int.reduceLT, Int.reduceLE, Int.reduceEq, Int.reduceNeg, Int.reduceAdd, Int.reduceSub, Nat.reduceLeDiff, Nat.reduceLT]
   rw [stAx { a with pc := 0 } hd rfl rfl (by decide) rfl]
   exact behind hN hd hk
 ·have e : decide ((slS (A.w (C.slot a.hs)) = 1 ∨ slS (A.w (C.slot a.hs)) = 2 ∨ slS (A.w (C.slot a.hs)) = 4) ∧ slG (A.w (C.slot a.hs)) = a.hg) = false := decide_eq_false hl'
  rw [if_neg hl'] at hk
  simp only [e, ruS, ruL, ruE, Nat.reduceAdd, reduceIte, Int.reduceLT, Int.reduceLE, Int.reduceEq, Int.reduceNeg, Int.reduceAdd, Int.reduceSub, Nat.reduceLeDiff, Nat.reduceLT]
  rw [c_Now, c_Aend hd]
  exact behind hN hd hk
end Go.Fl
namespace Go.Fl
open Go
set_option linter.unusedVariables false
set_option linter.unusedSimpArgs false
variable {N : Nm} {A B : Ar} {σ : Mem} {K : Value → Mem → Prop} {C : Cf} {who : Int}
structure Ak where
 a : Ac
 h : Hl
def Ak.new (kd n ix v old : Int) (own : Bool) : Ak := ⟨Ac.new kd n ix v old own, Hl.new 0 0 0⟩
def Ak.step (C : Cf) (who : Int) (A : Ar) (m : Ak) : Bool × Ak × Ar :=
 if m.a.pc = 4 then
  if (m.h.step C who A).1 = true then (false, { m with a := { m.a with pc := 0 } }, (m.h.step C who A).2.2) else (false, { m with h := (m.h.step C who A).2.1 }, (m.h.step C who A).2.2)
 else ((m.a.step C who A).1, ⟨(m.a.step C who A).2.1, if m.a.pc = 2 then Hl.new m.a.hs m.a.w m.a.size else m.h⟩, (m.a.step C who A).2.2)
structure Ak.fit (C : Cf) (A : Ar) (m : Ak) : Prop where
 a : m.a.fit C A
 h : m.a.pc = 4 → m.h.fit C
def Ac.wh (a : Ac) (x : Option Nat) : Ac := { a with help := x }
theorem Ac.step_help {a : Ac} {x : Option Nat} : (a.wh x).step C who A = ((a.step C who A).1, (a.step C who A).2.1.wh x, (a.step C who A).2.2) := by
 obtain ⟨kd, n, ix, v, old, own, hs, hg, pc, w, cell, seen, rd, size, help, oE, oH, oV, oS⟩ := a
 unfold Ac.step Ac.wh Ac.at' Ac.fin Ac.nxt
 dsimp only
 repeat' split
 all_goals rfl
theorem Ac.step_pc {a : Ac} (h2 : a.pc ≠ 2) (h4 : a.pc ≠ 4) : (a.step C who A).2.1.pc ≠ 4 := by
 unfold Ac.step Ac.fin
 repeat' split
 all_goals (dsimp only; omega)
structure AOb (N : Nm) (p : Nat) (O : List Nat) (m : Ak) (τ : Mem) : Prop where
 obj : ∃ x, τ.get p = some ⟨(m.a.wh x).l, true⟩ ∧ (m.a.pc = 4 → ∃ q, x = some q ∧ q ∈ O ∧ q ≠ p ∧ τ.get q = some ⟨[] ++ m.h.l ++ [], true⟩)
 own : ∀ i ∈ O, i ∉ N.l
 p : p ∈ O
theorem AOb.ext {p : Nat} {O : List Nat} {m : Ak} {τ : Mem} (h : AOb N p O m σ) (x : Ext σ τ) : AOb N p O m τ := by
 obtain ⟨⟨a, h1, h2⟩, h4, h5⟩ := h
 refine ⟨⟨a, x _ _ h1, fun e => ?_⟩, h4, h5⟩
 obtain ⟨q, q1, q2, q3, q4⟩ := h2 e; exact ⟨q, q1, q2, q3, x _ _ q4⟩
theorem AOb.keep {p : Nat} {O L : List Nat} {m : Ak} {τ : Mem} (h : AOb N p O m σ) (x : Keep L σ τ) (hL : ∀ i ∈ O, i ∉ L) : AOb N p O m τ := by
 obtain ⟨⟨a, h1, h2⟩, h4, h5⟩ := h
 refine ⟨⟨a, x.get h1 (hL p h5), fun e => ?_⟩, h4, h5⟩
 obtain ⟨q, q1, q2, q3, q4⟩ := h2 e; exact ⟨q, q1, q2, q3, x.get q4 (hL q q2)⟩
theorem c_Acc_Step (hN : N.ok) (hC : C.ok) (hA : isA N A σ) {p : Nat} {O : List Nat} {m : Ak} (hO : AOb N p O m σ) (hw : ∀ i, 0 ≤ A.w i ∧ A.w i < 18446744073709551616) (hn : C.len ≤ A.n) (hf : m.fit C A)
  (hk : ∀ O' τ, (∀ i ∈ O', i ∈ O ∨ σ.get i = none) → isA N (m.step C who A).2.2 τ → AOb N p O' (m.step C who A).2.1 τ → Keep (O ++ N.l) σ τ → K (.bool (m.step C who A).1) τ) : s_ab [.pointer (some ⟨p, 0, none⟩), N.env C who] K σ := by
 obtain ⟨⟨x, hp, h3⟩, own, pO⟩ := hO
 have hd := own p pO
 have k1 : ∀ {τ : Mem}, Keep (p :: N.l) σ τ → Keep (O ++ N.l) σ τ := fun k => k.mono fun i hi => by
  rcases List.mem_cons.1 hi with rfl | hi
  ·exact List.mem_append_left _ pO
  ·exact List.mem_append_right _ hi
 have same : ∀ i ∈ O, i ∈ O ∨ σ.get i = none := fun i hi => .inl hi
 have cons : ∀ {q : Nat}, σ.get q = none → ∀ i ∈ q :: O, i ∈ O ∨ σ.get i = none := fun h i hi => by rcases List.mem_cons.1 hi with rfl | hi; exact .inr h; exact .inl hi
 have ownc : ∀ {q : Nat}, q ∉ N.l → ∀ i ∈ q :: O, i ∉ N.l := fun h i hi => by rcases List.mem_cons.1 hi with rfl | hi; exact h; exact own i hi
 have hpc := hf.a.pc
 have hfx : (m.a.wh x).fit C A := ⟨hf.a.pc, hf.a.n, hf.a.hs, hf.a.w, hf.a.cell, hf.a.a1, hf.a.a2, hf.a.bd⟩
 have hpx : (m.a.wh x).pc = m.a.pc := rfl
 by_cases c4 : m.a.pc = 4
 ·unfold Ak.step at hk
  rw [if_pos c4] at hk
  obtain ⟨q, rfl, qO, qp, gq⟩ := h3 c4
  have k2 : ∀ {τ : Mem}, Keep (q :: p :: N.l) σ τ → Keep (O ++ N.l) σ τ := fun k => k.mono fun i hi => by
   rcases List.mem_cons.1 hi with rfl | hi
   ·exact List.mem_append_left _ qO
   ·rcases List.mem_cons.1 hi with rfl | hi
    ·exact List.mem_append_left _ pO
    ·exact List.mem_append_right _ hi
  refine c_Ac4 hN hC hA (a := m.a.wh (some q)) (t := m.h) hp hd gq (own q qO) qp hw hn c4 rfl (hf.h c4) (fun d τ u1 u2 u3 u4 => ?_) (fun d τ u1 u2 u3 => ?_)
  ·rw [if_neg (by rw [d]; decide)] at hk
   exact hk O τ same u1 ⟨⟨some q, u2, fun _ => ⟨q, rfl, qO, qp, u3⟩⟩, own, pO⟩ (k2 u4)
  ·rw [if_pos d] at hk
   exact hk O τ same u1 ⟨⟨some q, u2, fun e => by dsimp only at e; omega⟩, own, pO⟩ (k2 u3)
 unfold Ak.step at hk
 rw [if_neg c4] at hk
 by_cases c2 : m.a.pc = 2
 ·rw [if_pos c2] at hk
  have e := Ac.step_help (C := C) (who := who) (A := A) (a := m.a) (x := x)
  refine c_Ac2 hN hC hA (a := m.a.wh x) (who := who) hp hd hw hfx c2 ?_ ?_
  ·rw [e]
   intro c τ u1 u2 u3
   exact hk O τ same u1 ⟨⟨x, u2, fun q => absurd q c⟩, own, pO⟩ (k1 u3)
  ·rw [e]
   intro c q τ q1 q2 u1 u2 u3 u4
   exact hk (q :: O) τ (cons q1) u1 ⟨⟨some q, u2, fun _ => ⟨q, rfl, List.mem_cons_self .., q2, by rw [List.nil_append, List.append_nil]; exact u3⟩⟩, ownc (hA.new q1), List.mem_cons_of_mem _ pO⟩ (k1 u4)
 rw [if_neg c2] at hk
 have np := Ac.step_pc (C := C) (who := who) (A := A) c2 c4
 have hk' : ∀ τ, isA N ((m.a.wh x).step C who A).2.2 τ → τ.get p = some ⟨((m.a.wh x).step C who A).2.1.l, true⟩ → Keep (p :: N.l) σ τ → K (.bool ((m.a.wh x).step C who A).1) τ := by
  rw [Ac.step_help]
  intro τ u1 u2 u3
  exact hk O τ same u1 ⟨⟨x, u2, fun q => absurd q np⟩, own, pO⟩ (k1 u3)
 rcases (show m.a.pc = 0 ∨ m.a.pc = 1 ∨ m.a.pc = 3 ∨ m.a.pc = 5 ∨ m.a.pc = 6 by omega) with c | c | c | c | c
 ·exact c_Ac0 hN hC hA hp hd hw hn hfx c hk'
 ·exact c_Ac1 hN hC hA hp hd hw hfx c hk'
 ·exact c_Ac3 hN hC hA hp hd hn hfx c hk'
 ·exact c_Ac5 hN hC hA hp hd hfx c hk'
 ·exact c_Ac6 hN hC hA hp hd hw hn hfx c hk'
theorem AOb.done {p : Nat} {O : List Nat} {m : Ak} (hA : isA N A σ) (h : AOb N p O m σ) (hk : K (.agg #[.int .i64 m.a.oE, .int .u64 m.a.oH, .int .i64 m.a.oV, .int .i64 m.a.oS]) σ) : s_aa [.pointer (some ⟨p, 0, none⟩)] K σ := by
 obtain ⟨⟨x, hp, _⟩, own, pO⟩ := h
 exact c_AccDone hA (a := m.a.wh x) hp hk
theorem aob_new {kd n ix v old : Int} {o : Bool} (hA : isA N A σ) (hk : ∀ p τ, σ.get p = none → AOb N p [p] (Ak.new kd n ix v old o) τ → Ext σ τ → K (.pointer (some ⟨p, 0, none⟩)) τ) : s_ag [.agg #[.int .i64 kd, .int .u64 n, .int .i64 ix, .int .i64 v, .int .i64 old], .bool o] K σ := by
 refine c_AccNew fun p τ hp gp x => hk p τ hp ⟨⟨none, gp, (fun e => by cases e)⟩, fun i hi => ?_, List.mem_singleton.2 rfl⟩ x
 rw [List.mem_singleton.1 hi]; exact hA.new hp
end Go.Fl
namespace Go.Fl
open Go
set_option linter.unusedVariables false
set_option linter.unusedSimpArgs false
variable {N : Nm} {A B : Ar} {σ : Mem} {K : Value → Mem → Prop} {C : Cf} {who : Int}
theorem Ak.new_fit (hC : C.ok) {kd n ix v old : Int} {o : Bool} (hn : 0 ≤ n ∧ n < 18446744073709551616) (hb : (A.n : Int) ≤ 200000000) : (Ak.new kd n ix v old o).fit C A := by
 have hS := hC.S
 exact ⟨⟨⟨Int.le_refl 0, (by decide : (0 : Int) ≤ 6)⟩, hn, ⟨Int.le_refl 0, by show (0 : Int) < C.S; omega⟩, ⟨Int.le_refl 0, (by decide : (0 : Int) < 18446744073709551616)⟩, ⟨Int.le_refl 0, (by decide : (0 : Int) < 18446744073709551616)⟩, fun e => (by cases e), fun e => (by rcases e with e | e <;> cases e), hb⟩, fun e => (by cases e)⟩
def NaI (C : Cf) (A0 : Ar) (m0 : Ak) (k : Int) (m : Ak) (A : Ar) : Prop :=
 k = 0 ∧ m = m0 ∧ A = A0 ∨ k = 1 ∧ A.w = A0.w ∧ A.s = A0.s + 1 ∧ A.n = A0.n ∧ (∀ bb, A0.ok bb → A.ok (bb + 1)) ∧ m.a.pc = 1 ∧ m.a.n = m0.a.n ∧ m.a.own = m0.a.own ∧ m.a.w = A0.w (C.slot (hdSl m0.a.n)) ∧ (m.a.hs = hdSl m0.a.n ∧ hdSl m0.a.n < C.S) ∧ slA m.a.w < C.len ∧ hdO (A0.w (slA m.a.w)) ≠ m0.a.own ∧ m.a.cell = 0
structure NaD (A0 : Ar) (m : Ak) (A : Ar) : Prop where
 e : m.a.oE = 3 ∧ m.a.oH = 0 ∧ m.a.oV = 0
 s : A0.s ≤ m.a.oS ∧ m.a.oS = A.s ∧ A.s ≤ A0.s + 2
 w : A.w = A0.w
 n : A.n = A0.n
 ok : ∀ bb, A0.ok bb → A.ok (bb + 2)
theorem NaI.step (hC : C.ok) {A0 : Ar} {k bb kd n ix v old : Int} {own : Bool} {m : Ak} (h : NaI C A0 (Ak.new kd n ix v old own) k m A) (hn : NoDrop C A0.w n own) (h0 : 0 ≤ n ∧ n < 18446744073709551616) (ok : A0.ok bb) (hb : bb < 4611686018427387904) (hl : C.len ≤ A0.n) (hb2 : (A0.n : Int) ≤ 200000000) :
  m.fit C A ∧ (A.ok (bb + 1) ∧ C.len ≤ A.n ∧ ((m.step C who A).2.2 = A ∨ ∃ a, (m.step C who A).2.2 = (A.by who).load a ∧ 0 ≤ a ∧ a < C.len)) ∧ (((m.step C who A).1 = false ∧ NaI C A0 (Ak.new kd n ix v old own) (k + 1) (m.step C who A).2.1 (m.step C who A).2.2) ∨ ((m.step C who A).1 = true ∧ NaD A0 (m.step C who A).2.1 (m.step C who A).2.2)) := by
 rcases h with ⟨rfl, rfl, rfl⟩ | ⟨rfl, ew, es, en, eo, h1, h2, h3, h4, h5, h6, h7, h8⟩
 ·have hT := hC.T
  have hS := hC.S
  have hCC := hC.C
  have hll := len_bd hC
  have hsb : hdSl n < C.S → 0 ≤ C.slot (hdSl n) ∧ C.slot (hdSl n) < C.len := fun q => by have := hdSl_bd h0.1; unfold Cf.slot; unfold Cf.chunk at hll; omega
  refine ⟨Ak.new_fit hC h0 hb2, ?_⟩
  suffices H : _ ∧ _ from ⟨⟨ok_mono ok (by omega), hl, H.1⟩, H.2⟩
  have p0 : (Ak.new kd n ix v old own).a.pc = 0 := rfl
  have hb := hdSl_bd h0.1
  have a1 := aft_load (who := who) (A := A) (a := C.slot (hdSl n)) ok (by omega)
  have e0 : (Ak.new kd n ix v old own).step C who A = (((Ak.new kd n ix v old own).a.step C who A).1, ⟨((Ak.new kd n ix v old own).a.step C who A).2.1, (Ak.new kd n ix v old own).h⟩, ((Ak.new kd n ix v old own).a.step C who A).2.2) := by
   unfold Ak.step; rw [if_neg (by rw [p0]; decide), if_neg (by rw [p0]; decide)]
  rw [e0]
  by_cases c : hdOk n = false ∨ C.S ≤ hdSl n
  ·have e : (Ak.new kd n ix v old own).a.step C who A = (true, ({ (Ak.new kd n ix v old own).a with hs := hdSl n, hg := hdGe n } : Ac).fin 3 0 A.s, A) := by
    unfold Ac.step; rw [if_pos p0, if_pos (show hdOk (Ak.new kd n ix v old own).a.n = false ∨ C.S ≤ hdSl (Ak.new kd n ix v old own).a.n from c)]; rfl
   rw [e]
   refine ⟨.inl rfl, ?_⟩
   exact .inr ⟨rfl, ⟨rfl, rfl, rfl⟩, ⟨Int.le_refl _, rfl, by dsimp only; omega⟩, rfl, rfl, fun b2 o2 => ok_mono o2 (by omega)⟩
  ·rcases hn with hn | ⟨hn1, hn⟩
   ·exact absurd hn c
   rcases hn with hn | ⟨hn, h8, h9⟩
   ·have e : (Ak.new kd n ix v old own).a.step C who A = (true, ({ (Ak.new kd n ix v old own).a with hs := hdSl n, hg := hdGe n, w := A.w (C.slot (hdSl n)), seen := ((A.by who).load (C.slot (hdSl n))).s, pc := 1 } : Ac).fin 3 0 ((A.by who).load (C.slot (hdSl n))).s, (A.by who).load (C.slot (hdSl n))) := by
     unfold Ac.step; rw [if_pos p0, if_neg (show ¬ (hdOk (Ak.new kd n ix v old own).a.n = false ∨ C.S ≤ hdSl (Ak.new kd n ix v old own).a.n) from c), if_neg (show ¬ lives (A.w (C.slot (hdSl (Ak.new kd n ix v old own).a.n))) (hdGe (Ak.new kd n ix v old own).a.n) from hn)]; rfl
    rw [e]
    refine ⟨.inr ⟨_, rfl, hsb hn1.2⟩, ?_⟩
    exact .inr ⟨rfl, ⟨rfl, rfl, rfl⟩, ⟨by have := a1.s; show A.s ≤ ((A.by who).load (C.slot (hdSl n))).s; omega, rfl, by have := a1.s; show ((A.by who).load (C.slot (hdSl n))).s ≤ _; omega⟩, rfl, rfl, fun b2 o2 => ok_mono (a1.ok (by decide) o2 o2.w) (by omega)⟩
   ·have e : (Ak.new kd n ix v old own).a.step C who A = (false, { (Ak.new kd n ix v old own).a with hs := hdSl n, hg := hdGe n, w := A.w (C.slot (hdSl n)), seen := ((A.by who).load (C.slot (hdSl n))).s, pc := 1 }, (A.by who).load (C.slot (hdSl n))) := by
     unfold Ac.step; rw [if_pos p0, if_neg (show ¬ (hdOk (Ak.new kd n ix v old own).a.n = false ∨ C.S ≤ hdSl (Ak.new kd n ix v old own).a.n) from c), if_pos (show lives (A.w (C.slot (hdSl (Ak.new kd n ix v old own).a.n))) (hdGe (Ak.new kd n ix v old own).a.n) from hn)]; rfl
    rw [e]
    refine ⟨.inr ⟨_, rfl, hsb hn1.2⟩, ?_⟩
    exact .inl ⟨rfl, .inr ⟨rfl, rfl, a1.s, rfl, fun b2 o2 => a1.ok (by decide) o2 o2.w, rfl, rfl, rfl, rfl, ⟨rfl, hn1.2⟩, h8, h9, rfl⟩⟩
 ·have ok' := eo bb ok
  have hb' := hdSl_bd h0.1
  have hnn : (Ak.new kd n ix v old own).a.n = n := rfl
  have hoo : (Ak.new kd n ix v old own).a.own = own := rfl
  rw [hnn] at h2 h4 h5
  rw [hoo] at h3 h7
  refine ⟨⟨⟨by omega, by rw [h2]; exact h0, by rw [h5.1]; exact ⟨hb'.1.1, h5.2⟩, by rw [h4]; exact ok.w _, by rw [h8]; decide, fun _ => by omega, fun e => by omega, by omega⟩, fun e => by omega⟩, ?_⟩
  suffices H : _ ∧ _ from ⟨⟨ok', by omega, H.1⟩, H.2⟩
  have a1 := aft_load (who := who) (A := A) (a := slA m.a.w) ok' (by omega)
  have e0 : m.step C who A = ((m.a.step C who A).1, ⟨(m.a.step C who A).2.1, m.h⟩, (m.a.step C who A).2.2) := by
   unfold Ak.step; rw [if_neg (by omega), if_neg (by omega)]
  have e : m.a.step C who A = (true, ({ m.a with size := hdS (A.w (slA m.a.w)), pc := 2 } : Ac).fin 3 0 ((A.by who).load (slA m.a.w)).s, (A.by who).load (slA m.a.w)) := by
   unfold Ac.step; rw [if_neg (by omega), if_pos h1, if_pos (by rw [h3, ew]; exact h7)]
  rw [e0, e]
  refine ⟨.inr ⟨_, rfl, (slA_bd _).1, h6⟩, ?_⟩
  refine .inr ⟨rfl, ⟨rfl, rfl, rfl⟩, ⟨by have := a1.s; show A0.s ≤ ((A.by who).load (slA m.a.w)).s; omega, rfl, by have := a1.s; show ((A.by who).load (slA m.a.w)).s ≤ _; omega⟩, ew, en, fun b2 o2 => ?_⟩
  rw [show b2 + 2 = b2 + 1 + 1 by omega]
  exact a1.ok (by decide) (eo b2 o2) (eo b2 o2).w
end Go.Fl
namespace Go.Fl
open Go
set_option linter.unusedVariables false
set_option linter.unusedSimpArgs false
variable {N : Nm} {A B : Ar} {σ : Mem} {K : Value → Mem → Prop} {C : Cf} {who : Int}
def okAct (k v old : Int) : Prop := (1 ≤ k ∧ k ≤ 5) ∧ (0 ≤ v ∧ v ≤ 1099511627775) ∧ (0 ≤ old ∧ old ≤ 1099511627775)
instance {k v old : Int} : Decidable (okAct k v old) := inferInstanceAs (Decidable (_ ∧ _))
theorem box7 {k sz h ix v old : Int} {own : Bool} : gBox 7 [.agg #[.int .i64 k, .int .i64 sz, .int .u64 h, .int .i64 ix, .int .i64 v, .int .i64 old, .bool own]] [] = some [.int .i64 k, .int .i64 sz, .int .u64 h, .int .i64 ix, .int .i64 v, .int .i64 old, .bool own] := nr rfl
theorem sub7 {a b c d e f g : Value} : sub [a, b, c, d, e, f, g] 0 7 true = some (.agg #[a, b, c, d, e, f, g]) := nr rfl
theorem c_ActCheck {k sz h ix v old : Int} {own : Bool} : s_aj [.agg #[.int .i64 k, .int .i64 sz, .int .u64 h, .int .i64 ix, .int .i64 v, .int .i64 old, .bool own]] K σ = K (.bool (decide (okAct k v old))) σ := by
 have fin : ∀ b : Bool, (b = true ↔ (0 ≤ v ∧ v ≤ 1099511627775) ∧ (0 ≤ old ∧ old ≤ 1099511627775)) → w_aj_j1 K [.bool b] [[.int .i64 k, .int .i64 sz, .int .u64 h, .int .i64 ix, .int .i64 v, .int .i64 old, .bool own]] σ = K (.bool (decide (okAct k v old))) σ := by
  intro b hb
  simp only [w_aj_j1, w_aj_j1b, ruS, ruL, ruE, Nat.reduceAdd, reduceIte, Int.reduceLT, Int.reduceLE, Int.reduceEq, Int.reduceNeg, Int.reduceAdd, Int.reduceSub, Nat.reduceLeDiff, Nat.reduceLT]
  have key : (decide (okAct k v old)) = (decide (1 ≤ k) && decide (k ≤ 5) && b) := by
   rw [Bool.eq_iff_iff]
   simp only [Bool.and_eq_true, decide_eq_true_eq, hb]
   unfold okAct
   exact Iff.rfl
  rw [key]
  by_cases c1 : 1 ≤ k
  ·by_cases c2 : k ≤ 5
   ·simp only [c1, c2, ruS, ruL, ruE, Nat.reduceAdd, reduceIte, Int.reduceLT, Int.reduceLE, Int.reduceEq, Int.reduceNeg, Int.reduceAdd, Int.reduceSub, Nat.reduceLeDiff, Nat.reduceLT]; simp
   ·simp only [c1, c2, ruS, ruL, ruE, Nat.reduceAdd, reduceIte, Int.reduceLT, Int.reduceLE, Int.reduceEq, Int.reduceNeg, Int.reduceAdd, Int.reduceSub, Nat.reduceLeDiff, Nat.reduceLT]; simp
  ·simp only [c1, ruS, ruL, ruE, Nat.reduceAdd, reduceIte, Int.reduceLT, Int.reduceLE, Int.reduceEq, Int.reduceNeg, Int.reduceAdd, Int.reduceSub, Nat.reduceLeDiff, Nat.reduceLT]; simp
 simp only [s_aj, w_aj, box7, ruS, ruL, ruE, Nat.reduceAdd, reduceIte, Int.reduceLT, Int.reduceLE, Int.reduceEq, Int.reduceNeg, Int.reduceAdd, Int.reduceSub, Nat.reduceLeDiff, Nat.reduceLT]
 by_cases c1 : 0 ≤ v
 ·by_cases c2 : v ≤ 1099511627775
  ·by_cases c3 : 0 ≤ old
   ·by_cases c4 : old ≤ 1099511627775
    ·simp only [c1, c2, c3, c4, ruS, ruL, ruE, Nat.reduceAdd, reduceIte, Int.reduceLT, Int.reduceLE, Int.reduceEq, Int.reduceNeg, Int.reduceAdd, Int.reduceSub, Nat.reduceLeDiff, Nat.reduceLT]; exact fin true (by simp [c1, c2, c3, c4])
    ·simp only [c1, c2, c3, c4, ruS, ruL, ruE, Nat.reduceAdd, reduceIte, Int.reduceLT, Int.reduceLE, Int.reduceEq, Int.reduceNeg, Int.reduceAdd, Int.reduceSub, Nat.reduceLeDiff, Nat.reduceLT]; exact fin false (by simp [c4])
   ·simp only [c1, c2, c3, ruS, ruL, ruE, Nat.reduceAdd, reduceIte, Int.reduceLT, Int.reduceLE, Int.reduceEq, Int.reduceNeg, Int.reduceAdd, Int.reduceSub, Nat.reduceLeDiff, Nat.reduceLT]; exact fin false (by simp [c3])
  ·simp only [c1, c2, ruS, ruL, ruE, Nat.reduceAdd, reduceIte, Int.reduceLT, Int.reduceLE, Int.reduceEq, Int.reduceNeg, Int.reduceAdd, Int.reduceSub, Nat.reduceLeDiff, Nat.reduceLT]; exact fin false (by simp [c2])
 ·simp only [c1, ruS, ruL, ruE, Nat.reduceAdd, reduceIte, Int.reduceLT, Int.reduceLE, Int.reduceEq, Int.reduceNeg, Int.reduceAdd, Int.reduceSub, Nat.reduceLeDiff, Nat.reduceLT]; exact fin false (by simp [c1])
theorem c_awake15 : s_a6 [] K σ = K (.bool true) σ := by unfold s_a6; exact nr rfl
end Go.Fl
namespace Go.Fl
open Go
set_option linter.unusedVariables false
set_option linter.unusedSimpArgs false
variable {N : Nm} {A B : Ar} {σ : Mem} {K : Value → Mem → Prop} {C : Cf} {who : Int}
inductive Wk where
 | al (m : Am)
 | dr (m : Dm)
 | ac (m : Ak)
def Wk.ty : Wk → Nat
 | .al _ => 83
 | .dr _ => 85
 | .ac _ => 87
def Wk.step (C : Cf) (who : Int) (A : Ar) : Wk → Bool × Wk × Ar
 | .al m => ((m.step C who A).1, .al (m.step C who A).2.1, (m.step C who A).2.2)
 | .dr m => ((m.step C who A).1, .dr (m.step C who A).2.1, (m.step C who A).2.2)
 | .ac m => ((m.step C who A).1, .ac (m.step C who A).2.1, (m.step C who A).2.2)
def Wk.fit (C : Cf) (A : Ar) : Wk → Prop
 | .al m => m.fit C A
 | .dr m => m.fit C A
 | .ac m => m.fit C A
def Wk.ob (N : Nm) (q : Nat) (O : List Nat) (τ : Mem) : Wk → Prop
 | .al m => Ob N q O m τ
 | .dr m => DOb N q O m τ
 | .ac m => AOb N q O m τ
def Wk.oE : Wk → Int
 | .al m => m.a.oE
 | .dr m => m.d.oE
 | .ac m => m.a.oE
def Wk.oH : Wk → Int
 | .al m => m.a.oH
 | .dr m => m.d.oH
 | .ac m => m.a.oH
def Wk.oV : Wk → Int
 | .al m => m.a.oV
 | .dr m => m.d.oV
 | .ac m => m.a.oV
def Wk.oS : Wk → Int
 | .al m => m.a.oS
 | .dr m => m.d.oS
 | .ac m => m.a.oS
theorem Wk.ty_step {k : Wk} : (k.step C who A).2.1.ty = k.ty := by cases k <;> rfl
theorem c_WkStep (hN : N.ok) (hC : C.ok) (hA : isA N A σ) {q : Nat} {O : List Nat} {k : Wk} (hO : k.ob N q O σ) (hw : ∀ i, 0 ≤ A.w i ∧ A.w i < 18446744073709551616) (hn : C.len ≤ A.n) (hf : k.fit C A)
  (hk : ∀ O' τ, (∀ i ∈ O', i ∈ O ∨ σ.get i = none) → isA N (k.step C who A).2.2 τ → (k.step C who A).2.1.ob N q O' τ → Keep (O ++ N.l) σ τ → K (.bool (k.step C who A).1) τ) :
  hInv [(83, s_an), (85, s_as), (87, s_ab)] [.iface k.ty (.pointer (some ⟨q, 0, none⟩)), N.env C who] K σ := by
 cases k with
 | al m => exact c_Alloc_Step hN hC hA hO hw hn hf hk
 | dr m => exact c_Drop_Step hN hC hA hO hw hn hf hk
 | ac m => exact c_Acc_Step hN hC hA hO hw hn hf hk
theorem c_WkDone (hA : isA N A σ) {q : Nat} {O : List Nat} {k : Wk} (hO : k.ob N q O σ) (hk : K (.agg #[.int .i64 k.oE, .int .u64 k.oH, .int .i64 k.oV, .int .i64 k.oS]) σ) :
  hInv [(83, s_am), (85, s_ar), (87, s_aa)] [.iface k.ty (.pointer (some ⟨q, 0, none⟩))] K σ := by
 cases k with
 | al m => exact Ob.done hA hO hk
 | dr m => exact DOb.done hA hO hk
 | ac m => exact AOb.done hA hO hk
structure Aa where
 ip : Int
 ep : Int
 pc : Int
 wk : Wk
 oE : Int
 oH : Int
 oV : Int
 oS : Int
def Aa.l (a : Aa) (q : Nat) : List Value := [.int .i64 a.ip, .int .u64 a.ep, .int .i64 a.pc, .iface a.wk.ty (.pointer (some ⟨q, 0, none⟩)), .int .i64 a.oE, .int .u64 a.oH, .int .i64 a.oV, .int .i64 a.oS]
def Aa.new (k : Wk) : Aa := ⟨0, 0, 0, k, 0, 0, 0, 0⟩
def Aa.step (C : Cf) (who : Int) (A : Ar) (a : Aa) : Bool × Aa × Ar :=
 if a.pc = 0 then
  if a.ip = 0 then (false, { a with ip := 1, ep := A.w 0 }, (A.by who).load 0)
  else if a.ip = 1 then (false, { a with ip := 2 }, (A.by who).store (6 + who) (IntKind.u64.wrap (a.ep + 1)))
  else if A.w 0 = a.ep then (false, { a with pc := 1 }, (A.by who).load 0)
  else (false, { a with ip := 1, ep := A.w 0 }, (A.by who).load 0)
 else if a.pc = 1 then
  if (a.wk.step C who A).1 = true then (false, { a with wk := (a.wk.step C who A).2.1, oE := (a.wk.step C who A).2.1.oE, oH := (a.wk.step C who A).2.1.oH, oV := (a.wk.step C who A).2.1.oV, oS := (a.wk.step C who A).2.1.oS, pc := 2 }, (a.wk.step C who A).2.2)
  else (false, { a with wk := (a.wk.step C who A).2.1 }, (a.wk.step C who A).2.2)
 else (true, a, (A.by who).store (6 + who) 0)
theorem ldAa {p q k sz : Nat} {ag : Bool} {a : Aa} {v : Value} (hd : p ∉ N.l) (h : sub (a.l q) k sz ag = some v) : hLoad sz ag [.pointer (some ⟨p, k, none⟩)] K (putA N A (σ.set p ⟨a.l q, true⟩)) = K v (putA N A (σ.set p ⟨a.l q, true⟩)) := by
 rw [hLoad_eq ((putA_get hd).trans (Mem.get_set_same _ _ _)), h, xOs]
theorem stAa {p q k : Nat} {a : Aa} (a' : Aa) {x : Value} (hd : p ∉ N.l) (hx : cellsOf x 1 = some [x]) (ho : oneB x = true) (hk : k + 1 ≤ 8) (e : lay (a.l q) k [x] = a'.l q) :
  hStore 1 [.pointer (some ⟨p, k, none⟩), x] K (putA N A (σ.set p ⟨a.l q, true⟩)) = K undef (putA N A (σ.set p ⟨a'.l q, true⟩)) := by
 have := stO (K := K) (N := N) (A := A) (σ := σ) (p := p) (pre := []) (L := a.l q) (post := []) (k := k) (sz := 1) (x := x) (c := [x]) hd hx rfl hk (by simp [ho])
 rw [e] at this
 simpa only [List.nil_append, List.append_nil, List.length_nil, Nat.zero_add] using this
theorem stAaa {p q k sz : Nat} {a : Aa} (a' : Aa) {c : List Value} (hd : p ∉ N.l) (hl : c.length = sz) (ho : c.all oneB = true) (hk : k + sz ≤ 8) (e : lay (a.l q) k c = a'.l q) :
  hStore sz [.pointer (some ⟨p, k, none⟩), .agg c.toArray] K (putA N A (σ.set p ⟨a.l q, true⟩)) = K undef (putA N A (σ.set p ⟨a'.l q, true⟩)) := by
 have := stOa (K := K) (N := N) (A := A) (σ := σ) (p := p) (pre := []) (L := a.l q) (post := []) (k := k) (sz := sz) (c := c) hd hl hk ho
 rw [e] at this
 simpa only [List.nil_append, List.append_nil, List.length_nil, Nat.zero_add] using this
theorem stA4 {p q : Nat} {a : Aa} {e h v s : Int} (a' : Aa) (hd : p ∉ N.l) (e' : lay (a.l q) 4 [.int .i64 e, .int .u64 h, .int .i64 v, .int .i64 s] = a'.l q) :
  hStore 4 [.pointer (some ⟨p, 4, none⟩), .agg #[.int .i64 e, .int .u64 h, .int .i64 v, .int .i64 s]] K (putA N A (σ.set p ⟨a.l q, true⟩)) = K undef (putA N A (σ.set p ⟨a'.l q, true⟩)) :=
 stAaa (sz := 4) (k := 4) (c := [.int .i64 e, .int .u64 h, .int .i64 v, .int .i64 s]) a' hd rfl rfl (by decide) e'
theorem box9 {c : Cf} : gBox 9 [N.env c who] [] = some (N.el c who) := nr rfl
theorem c_InStep (hN : N.ok) (hC : C.ok) {p q : Nat} {a : Aa} (hd : p ∉ N.l) (hn : C.len ≤ A.n) (hw : 0 ≤ who ∧ who < C.T) (hip : a.ip = 0 ∨ a.ip = 1 ∨ a.ip = 2) :
  s_b2 [.pointer (some ⟨p, 0, none⟩), N.env C who] K (putA N A (σ.set p ⟨a.l q, true⟩)) =
   (if a.ip = 0 then K (.bool false) (putA N ((A.by who).load 0) (σ.set p ⟨({ a with ip := 1, ep := A.w 0 } : Aa).l q, true⟩))
   else if a.ip = 1 then K (.bool false) (putA N ((A.by who).store (6 + who) (IntKind.u64.wrap (a.ep + 1))) (σ.set p ⟨({ a with ip := 2 } : Aa).l q, true⟩))
   else if A.w 0 = a.ep then K (.bool true) (putA N ((A.by who).load 0) (σ.set p ⟨a.l q, true⟩))
   else K (.bool false) (putA N ((A.by who).load 0) (σ.set p ⟨({ a with ip := 1, ep := A.w 0 } : Aa).l q, true⟩))) := by
 have hT := hC.T; have hS := hC.S; have hC3 := hC.C; have hl := len_bd hC
 have hch : C.chunk C.C = 6 + C.T + 2 * C.S + 3 * C.C := rfl
 have e8 : sub (N.el C who) 8 1 false = some (.int .i64 who) := rfl
 simp only [s_b2, w_b2, box9, ldAa (K := _) hd (show sub (a.l q) 0 1 false = some (.int .i64 a.ip) from rfl), ruS, ruL, ruE, Nat.reduceAdd, reduceIte, Int.reduceLT, Int.reduceLE, Int.reduceEq, Int.reduceNeg, Int.reduceAdd, Int.reduceSub, Nat.reduceLeDiff, Nat.reduceLT]
 rcases hip with h | h | h
 ·simp only [h, ruS, ruL, ruE, Nat.reduceAdd, reduceIte, Int.reduceLT, Int.reduceLE, Int.reduceEq, Int.reduceNeg, Int.reduceAdd, Int.reduceSub, Nat.reduceLeDiff, Nat.reduceLT]
  rw [c_Epoch, c_Load hN (by decide) (by omega)]
  rw [stAa ({ a with ep := A.w 0 } : Aa) hd rfl rfl (by decide) rfl]
  rw [stAa ({ a with ip := 1, ep := A.w 0 } : Aa) hd rfl rfl (by decide) rfl]
  simp only [w_b2_j1, w_b2_j1b, ruS, ruL, ruE, Nat.reduceAdd, reduceIte, Int.reduceLT, Int.reduceLE, Int.reduceEq, Int.reduceNeg, Int.reduceAdd, Int.reduceSub, Nat.reduceLeDiff, Nat.reduceLT]
 ·simp only [h, e8, ruS, ruL, ruE, Nat.reduceAdd, reduceIte, Int.reduceLT, Int.reduceLE, Int.reduceEq, Int.reduceNeg, Int.reduceAdd, Int.reduceSub, Nat.reduceLeDiff, Nat.reduceLT]
  rw [c_Pin hw.1 (by omega)]
  rw [ldAa hd (show sub (a.l q) 1 1 false = some (.int .u64 a.ep) from rfl)]
  simp only [ruS, ruL, ruE, Nat.reduceAdd, reduceIte, Int.reduceLT, Int.reduceLE, Int.reduceEq, Int.reduceNeg, Int.reduceAdd, Int.reduceSub, Nat.reduceLeDiff, Nat.reduceLT]
  rw [c_Store hN (by omega) (by omega)]
  rw [stAa ({ a with ip := 2 } : Aa) hd rfl rfl (by decide) rfl]
  simp only [w_b2_j1, w_b2_j1b, ruS, ruL, ruE, Nat.reduceAdd, reduceIte, Int.reduceLT, Int.reduceLE, Int.reduceEq, Int.reduceNeg, Int.reduceAdd, Int.reduceSub, Nat.reduceLeDiff, Nat.reduceLT]
 ·simp only [h, ruS, ruL, ruE, Nat.reduceAdd, reduceIte, Int.reduceLT, Int.reduceLE, Int.reduceEq, Int.reduceNeg, Int.reduceAdd, Int.reduceSub, Nat.reduceLeDiff, Nat.reduceLT]
  rw [c_Epoch, c_Load hN (by decide) (by omega)]
  rw [ldAa hd (show sub (a.l q) 1 1 false = some (.int .u64 a.ep) from rfl)]
  by_cases c : A.w 0 = a.ep
  ·simp only [c, ruS, ruL, ruE, Nat.reduceAdd, reduceIte, Int.reduceLT, Int.reduceLE, Int.reduceEq, Int.reduceNeg, Int.reduceAdd, Int.reduceSub, Nat.reduceLeDiff, Nat.reduceLT]
  ·simp only [c, ruS, ruL, ruE, Nat.reduceAdd, reduceIte, Int.reduceLT, Int.reduceLE, Int.reduceEq, Int.reduceNeg, Int.reduceAdd, Int.reduceSub, Nat.reduceLeDiff, Nat.reduceLT]
   rw [stAa ({ a with ep := A.w 0 } : Aa) hd rfl rfl (by decide) rfl]
   rw [stAa ({ a with ip := 1, ep := A.w 0 } : Aa) hd rfl rfl (by decide) rfl]
   simp only [w_b2_j1, w_b2_j1b, ruS, ruL, ruE, Nat.reduceAdd, reduceIte, Int.reduceLT, Int.reduceLE, Int.reduceEq, Int.reduceNeg, Int.reduceAdd, Int.reduceSub, Nat.reduceLeDiff, Nat.reduceLT]
structure TOb (N : Nm) (p : Nat) (O : List Nat) (a : Aa) (τ : Mem) : Prop where
 obj : ∃ q, τ.get p = some ⟨a.l q, true⟩ ∧ a.wk.ob N q O τ
 po : p ∉ O
 pn : p ∉ N.l
theorem Ob.keep {p : Nat} {O L : List Nat} {m : Am} {τ : Mem} (h : Ob N p O m σ) (x : Keep L σ τ) (hL : ∀ i ∈ O, i ∉ L) : Ob N p O m τ := by
 obtain ⟨⟨a, b, h1, h2, h3⟩, h4, h5⟩ := h
 refine ⟨⟨a, b, x.get h1 (hL p h5), fun e => ?_, fun e => ?_⟩, h4, h5⟩
 ·obtain ⟨q, q1, q2, q3, q4⟩ := h2 e; exact ⟨q, q1, q2, q3, x.get q4 (hL q q2)⟩
 ·obtain ⟨q, q1, q2, q3, q4⟩ := h3 e; exact ⟨q, q1, q2, q3, x.get q4 (hL q q2)⟩
theorem DOb.keep {p : Nat} {O L : List Nat} {m : Dm} {τ : Mem} (h : DOb N p O m σ) (x : Keep L σ τ) (hL : ∀ i ∈ O, i ∉ L) : DOb N p O m τ := by
 obtain ⟨⟨a, b, h1, h2, h3⟩, h4, h5⟩ := h
 refine ⟨⟨a, b, x.get h1 (hL p h5), fun e => ?_, fun e => ?_⟩, h4, h5⟩
 ·obtain ⟨q, q1, q2, q3, q4⟩ := h2 e; exact ⟨q, q1, q2, q3, x.get q4 (hL q q2)⟩
 ·obtain ⟨q, q1, q2, q3, q4⟩ := h3 e; exact ⟨q, q1, q2, q3, x.get q4 (hL q q2)⟩
theorem Wk.ob_own {q : Nat} {O : List Nat} {k : Wk} (h : k.ob N q O σ) : ∀ i ∈ O, i ∉ N.l := by cases k <;> exact h.own
theorem Wk.ob_keep {q : Nat} {O L : List Nat} {k : Wk} {τ : Mem} (h : k.ob N q O σ) (x : Keep L σ τ) (hL : ∀ i ∈ O, i ∉ L) : k.ob N q O τ := by
 cases k with
 | al m => exact Ob.keep h x hL
 | dr m => exact DOb.keep h x hL
 | ac m => exact AOb.keep h x hL
theorem c_ActStep (hN : N.ok) (hC : C.ok) (hA : isA N A σ) {p : Nat} {O : List Nat} {a : Aa} (hO : TOb N p O a σ) (hw : ∀ i, 0 ≤ A.w i ∧ A.w i < 18446744073709551616) (hn : C.len ≤ A.n) (hwho : 0 ≤ who ∧ who < C.T) (hip : a.ip = 0 ∨ a.ip = 1 ∨ a.ip = 2) (hpc : a.pc = 0 ∨ a.pc = 1 ∨ a.pc = 2) (hf : a.pc = 1 → a.wk.fit C A)
  (hk : ∀ O' τ, (∀ i ∈ O', i ∈ O ∨ σ.get i = none) → isA N (a.step C who A).2.2 τ → TOb N p O' (a.step C who A).2.1 τ → Keep (p :: (O ++ N.l)) σ τ → K (.bool (a.step C who A).1) τ) : s_ai [.pointer (some ⟨p, 0, none⟩), N.env C who] K σ := by
 obtain ⟨⟨q, gp, wo⟩, pO, hd⟩ := hO
 have hT := hC.T; have hS := hC.S; have hC3 := hC.C; have hl := len_bd hC
 have hch : C.chunk C.C = 6 + C.T + 2 * C.S + 3 * C.C := rfl
 have own := Wk.ob_own wo
 have dj : ∀ i ∈ O, i ∉ p :: N.l := fun i hi => by
  simp only [List.mem_cons, not_or]; exact ⟨fun e => pO (e ▸ hi), own i hi⟩
 have kk : ∀ {τ : Mem}, Keep (p :: N.l) σ τ → Keep (p :: (O ++ N.l)) σ τ := fun k => k.mono fun i hi => by
  rcases List.mem_cons.1 hi with rfl | hi
  ·exact List.mem_cons_self ..
  ·exact List.mem_cons_of_mem _ (List.mem_append_right _ hi)
 have e8 : sub (N.el C who) 8 1 false = some (.int .i64 who) := rfl
 have bO : ∀ K : Value → Prop, xF (fBuild [] [] []) [] K = K (.agg #[]) := fun K => nr rfl
 rcases hpc with h | h | h
 · -- pinning
  unfold Aa.step at hk
  rw [if_pos h] at hk
  rw [hA.obj gp]
  simp only [s_ai, w_ai, box9, ldAa (K := _) hd (show sub (a.l q) 2 1 false = some (.int .i64 a.pc) from rfl), h, ruS, ruL, ruE, Nat.reduceAdd, reduceIte, Int.reduceLT, Int.reduceLE, Int.reduceEq, Int.reduceNeg, Int.reduceAdd, Int.reduceSub, Nat.reduceLeDiff, Nat.reduceLT]
  rw [c_InStep hN hC hd hn hwho hip]
  have done : ∀ {A' : Ar} {a' : Aa}, a'.wk = a.wk → (∀ τ, isA N A' τ → TOb N p O a' τ → Keep (p :: (O ++ N.l)) σ τ → K (.bool false) τ) → K (.bool false) (putA N A' (σ.set p ⟨a'.l q, true⟩)) := fun {A' a'} e hk =>
   behind hN hd fun τ h1 h2 h3 => hk τ h1 ⟨⟨q, h2, by rw [e]; exact Wk.ob_keep wo h3 dj⟩, pO, hd⟩ (kk h3)
  by_cases c0 : a.ip = 0
  ·rw [if_pos c0] at hk ⊢
   simp only [w_ai_j1, w_ai_j1b, ruS, ruL, ruE, Nat.reduceAdd, reduceIte, Int.reduceLT, Int.reduceLE, Int.reduceEq, Int.reduceNeg, Int.reduceAdd, Int.reduceSub, Nat.reduceLeDiff, Nat.reduceLT]
   exact done rfl fun τ h1 h2 h3 => hk O τ (fun i hi => .inl hi) h1 h2 h3
  ·rw [if_neg c0] at hk ⊢
   by_cases c1 : a.ip = 1
   ·rw [if_pos c1] at hk ⊢
    simp only [w_ai_j1, w_ai_j1b, ruS, ruL, ruE, Nat.reduceAdd, reduceIte, Int.reduceLT, Int.reduceLE, Int.reduceEq, Int.reduceNeg, Int.reduceAdd, Int.reduceSub, Nat.reduceLeDiff, Nat.reduceLT]
    exact done rfl fun τ h1 h2 h3 => hk O τ (fun i hi => .inl hi) h1 h2 h3
   ·rw [if_neg c1] at hk ⊢
    by_cases c2 : A.w 0 = a.ep
    ·rw [if_pos c2] at hk ⊢
     simp only [ruS, ruL, ruE, Nat.reduceAdd, reduceIte, Int.reduceLT, Int.reduceLE, Int.reduceEq, Int.reduceNeg, Int.reduceAdd, Int.reduceSub, Nat.reduceLeDiff, Nat.reduceLT]
     rw [stAa ({ a with pc := 1 } : Aa) hd rfl rfl (by decide) rfl]
     simp only [w_ai_j1, w_ai_j1b, ruS, ruL, ruE, Nat.reduceAdd, reduceIte, Int.reduceLT, Int.reduceLE, Int.reduceEq, Int.reduceNeg, Int.reduceAdd, Int.reduceSub, Nat.reduceLeDiff, Nat.reduceLT]
     exact done rfl fun τ h1 h2 h3 => hk O τ (fun i hi => .inl hi) h1 h2 h3
    ·rw [if_neg c2] at hk ⊢
     simp only [w_ai_j1, w_ai_j1b, ruS, ruL, ruE, Nat.reduceAdd, reduceIte, Int.reduceLT, Int.reduceLE, Int.reduceEq, Int.reduceNeg, Int.reduceAdd, Int.reduceSub, Nat.reduceLeDiff, Nat.reduceLT]
     exact done rfl fun τ h1 h2 h3 => hk O τ (fun i hi => .inl hi) h1 h2 h3
 · -- doing
  unfold Aa.step at hk
  rw [if_neg (by omega), if_pos h] at hk
  simp only [s_ai, w_ai, box9, ldG gp (show sub (a.l q) 2 1 false = some (.int .i64 a.pc) from rfl), ldG gp (show sub (a.l q) 3 1 false = some (.iface a.wk.ty (.pointer (some ⟨q, 0, none⟩))) from rfl), h, ruS, ruL, ruE, Nat.reduceAdd, reduceIte, Int.reduceLT, Int.reduceLE, Int.reduceEq, Int.reduceNeg, Int.reduceAdd, Int.reduceSub, Nat.reduceLeDiff, Nat.reduceLT]
  refine c_WkStep hN hC hA wo hw hn (hf h) fun O' τ1 hO' hA1 hO1 hK1 => ?_
  have gp1 : τ1.get p = some ⟨a.l q, true⟩ := hK1.get gp (by simp only [List.mem_append, not_or]; exact ⟨pO, hd⟩)
  have pO' : p ∉ O' := fun hp => by
   rcases hO' p hp with y | y
   ·exact pO y
   ·rw [gp] at y; cases y
  have ety : (a.wk.step C who A).2.1.ty = a.wk.ty := Wk.ty_step
  have k1 : Keep (p :: (O ++ N.l)) σ τ1 := hK1.mono fun i hi => List.mem_cons_of_mem _ hi
  have own1 := Wk.ob_own hO1
  generalize a.wk.step C who A = r at *
  obtain ⟨d, k', A'⟩ := r
  dsimp only at *
  have gp2 : τ1.get p = some ⟨({ a with wk := k' } : Aa).l q, true⟩ := by rw [gp1]; unfold Aa.l; dsimp only; rw [ety]
  cases d with
  | false =>
   rw [if_neg (by decide)] at hk
   simp only [w_ai_j1, w_ai_j1b, ruS, ruL, ruE, Nat.reduceAdd, reduceIte, Int.reduceLT, Int.reduceLE, Int.reduceEq, Int.reduceNeg, Int.reduceAdd, Int.reduceSub, Nat.reduceLeDiff, Nat.reduceLT]
   exact hk O' τ1 hO' hA1 ⟨⟨q, gp2, hO1⟩, pO', hd⟩ k1
  | true =>
   rw [if_pos rfl] at hk
   simp only [ldG gp1 (show sub (a.l q) 3 1 false = some (.iface a.wk.ty (.pointer (some ⟨q, 0, none⟩))) from rfl), ruS, ruL, ruE, Nat.reduceAdd, reduceIte, Int.reduceLT, Int.reduceLE, Int.reduceEq, Int.reduceNeg, Int.reduceAdd, Int.reduceSub, Nat.reduceLeDiff, Nat.reduceLT]
   rw [← ety]
   refine c_WkDone hA1 hO1 ?_
   rw [hA1.obj gp2]
   rw [stA4 (a := { a with wk := k' }) (e := k'.oE) (h := k'.oH) (v := k'.oV) (s := k'.oS) ({ a with wk := k', oE := k'.oE, oH := k'.oH, oV := k'.oV, oS := k'.oS } : Aa) hd rfl]
   rw [stAa ({ a with wk := k', oE := k'.oE, oH := k'.oH, oV := k'.oV, oS := k'.oS, pc := 2 } : Aa) hd rfl rfl (by decide) rfl]
   simp only [w_ai_j1, w_ai_j1b, ruS, ruL, ruE, Nat.reduceAdd, reduceIte, Int.reduceLT, Int.reduceLE, Int.reduceEq, Int.reduceNeg, Int.reduceAdd, Int.reduceSub, Nat.reduceLeDiff, Nat.reduceLT]
   refine behind hN hd fun τ h1 h2 h3 => hk O' τ hO' h1 ⟨⟨q, h2, Wk.ob_keep hO1 h3 fun i hi => ?_⟩, pO', hd⟩ fun i b hi hn => ?_
   ·simp only [List.mem_cons, not_or]; exact ⟨fun e => pO' (e ▸ hi), own1 i hi⟩
   ·refine h3 i b (k1 i b hi hn) fun hm => hn ?_
    rcases List.mem_cons.1 hm with rfl | hm
    ·exact List.mem_cons_self ..
    ·exact List.mem_cons_of_mem _ (List.mem_append_right _ hm)
 · -- letting go
  unfold Aa.step at hk
  rw [if_neg (by omega), if_neg (by omega)] at hk
  have bx0 : gBox 0 [.agg #[]] [] = some [] := rfl
  rw [hA.obj gp]
  simp only [s_ai, w_ai, box9, ldAa (K := _) hd (show sub (a.l q) 2 1 false = some (.int .i64 a.pc) from rfl), h, bO, s_b3, w_b3, bx0, e8, ruS, ruL, ruE, Nat.reduceAdd, reduceIte, Int.reduceLT, Int.reduceLE, Int.reduceEq, Int.reduceNeg, Int.reduceAdd, Int.reduceSub, Nat.reduceLeDiff, Nat.reduceLT]
  rw [c_Pin hwho.1 (by omega), c_Store hN (by omega) (by omega)]
  exact behind hN hd fun τ h1 h2 h3 => hk O τ (fun i hi => .inl hi) h1 ⟨⟨q, h2, Wk.ob_keep wo h3 dj⟩, pO, hd⟩ (kk h3)
end Go.Fl
namespace Go.Fl
open Go
set_option linter.unusedVariables false
set_option linter.unusedSimpArgs false
variable {N : Nm} {A B : Ar} {σ : Mem} {K : Value → Mem → Prop} {C : Cf} {who : Int}
def Wk.of (k sz h ix v old : Int) (own : Bool) : Wk := if k = 1 then .al (Am.new sz own) else if k = 2 then .dr (Dm.new h own) else .ac (Ak.new (k - 2) h ix v old own)
theorem c_of (hA : isA N A σ) {k sz h ix v old : Int} {own : Bool} (hok : 1 ≤ k ∧ k ≤ 5) (hk : ∀ q τ, σ.get q = none → (Wk.of k sz h ix v old own).ob N q [q] τ → Ext σ τ → K (.iface (Wk.of k sz h ix v old own).ty (.pointer (some ⟨q, 0, none⟩))) τ) :
  s_al [.agg #[.int .i64 k, .int .i64 sz, .int .u64 h, .int .i64 ix, .int .i64 v, .int .i64 old, .bool own]] K σ := by
 have b5 : ∀ (a b c d e : Int) (K : Value → Prop), xF (fBuild [(0, 1), (1, 1), (2, 1), (3, 1), (4, 1)] [.int .i64 0, .int .u64 0, .int .i64 0, .int .i64 0, .int .i64 0] [0, 1, 2, 3, 4]) [.int .i64 a, .int .u64 b, .int .i64 c, .int .i64 d, .int .i64 e] K = K (.agg #[.int .i64 a, .int .u64 b, .int .i64 c, .int .i64 d, .int .i64 e]) := fun _ _ _ _ _ K => nr rfl
 unfold Wk.of at hk
 simp only [s_al, w_al, box7, ruS, ruL, ruE, Nat.reduceAdd, reduceIte, Int.reduceLT, Int.reduceLE, Int.reduceEq, Int.reduceNeg, Int.reduceAdd, Int.reduceSub, Nat.reduceLeDiff, Nat.reduceLT]
 by_cases c1 : k = 1
 ·rw [if_pos c1] at hk
  simp only [c1, ruS, ruL, ruE, Nat.reduceAdd, reduceIte, Int.reduceLT, Int.reduceLE, Int.reduceEq, Int.reduceNeg, Int.reduceAdd, Int.reduceSub, Nat.reduceLeDiff, Nat.reduceLT]
  exact ob_new hA fun p τ hp ho x => hk p τ hp ho x
 ·rw [if_neg c1] at hk
  by_cases c2 : k = 2
  ·rw [if_pos c2] at hk
   simp only [c1, c2, ruS, ruL, ruE, Nat.reduceAdd, reduceIte, Int.reduceLT, Int.reduceLE, Int.reduceEq, Int.reduceNeg, Int.reduceAdd, Int.reduceSub, Nat.reduceLeDiff, Nat.reduceLT]
   exact dob_new hA fun p τ hp ho x => hk p τ hp ho x
  ·rw [if_neg c2] at hk
   simp only [c1, c2, b5, ruS, ruL, ruE, Nat.reduceAdd, reduceIte, Int.reduceLT, Int.reduceLE, Int.reduceEq, Int.reduceNeg, Int.reduceAdd, Int.reduceSub, Nat.reduceLeDiff, Nat.reduceLT]
   rw [IntWalk.i64_in (k - 3) (by omega), IntWalk.i64_in (k - 3 + 1) (by omega), show k - 3 + 1 = k - 2 by omega]
   exact aob_new hA fun p τ hp ho x => hk p τ hp ho x
theorem c_ActNew (hA : isA N A σ) {k sz h ix v old : Int} {own : Bool} (hok : okAct k v old) (hk : ∀ p q τ, σ.get p = none → σ.get q = none → TOb N p [q] (Aa.new (Wk.of k sz h ix v old own)) τ → Ext σ τ → K (.tuple #[.pointer (some ⟨p, 0, none⟩), .int .i64 0]) τ) :
  s_ak [.agg #[.int .i64 k, .int .i64 sz, .int .u64 h, .int .i64 ix, .int .i64 v, .int .i64 old, .bool own]] K σ := by
 have b8 : ∀ (t q : Nat) (K : Value → Prop), xF (fBuild [(0, 2), (2, 1), (3, 1), (4, 4)] [.int .i64 0, .int .u64 0, .int .i64 0, .nilIface, .int .i64 0, .int .u64 0, .int .i64 0, .int .i64 0] [2]) [.iface t (.pointer (some ⟨q, 0, none⟩))] K =
   K (.agg #[.int .i64 0, .int .u64 0, .int .i64 0, .iface t (.pointer (some ⟨q, 0, none⟩)), .int .i64 0, .int .u64 0, .int .i64 0, .int .i64 0]) := fun _ _ K => nr rfl
 simp only [s_ak, w_ak, box7, sub7, c_ActCheck, hok, ruS, ruL, ruE, Nat.reduceAdd, reduceIte, Int.reduceLT, Int.reduceLE, Int.reduceEq, Int.reduceNeg, Int.reduceAdd, Int.reduceSub, Nat.reduceLeDiff, Nat.reduceLT]
 refine c_of hA hok.1 fun q τ hq ho x => ?_
 rw [b8]
 refine hBox_i (cs := (Aa.new (Wk.of k sz h ix v old own)).l q) rfl fun p τ2 hp gp x2 => ?_
 have hA1 := hA.ext x
 have hqn : τ.get q ≠ none := by
  revert ho
  generalize Wk.of k sz h ix v old own = wk
  intro ho
  cases wk with
  | al m => obtain ⟨⟨_, _, g, _⟩, _⟩ := ho; rw [g]; simp
  | dr m => obtain ⟨⟨_, _, g, _⟩, _⟩ := ho; rw [g]; simp
  | ac m => obtain ⟨⟨_, g, _⟩, _⟩ := ho; rw [g]; simp
 refine hk p q τ2 (x.none hp) hq ⟨⟨q, gp, Wk.ob_keep (L := []) ho x2.keep fun _ _ => by simp⟩, fun e => ?_, hA1.new hp⟩ (x.trans x2)
 rw [List.mem_singleton.1 e] at hp
 exact hqn hp
theorem TOb.done {p : Nat} {O : List Nat} {a : Aa} (h : TOb N p O a σ) (hk : K (.agg #[.int .i64 a.oE, .int .u64 a.oH, .int .i64 a.oV, .int .i64 a.oS]) σ) : s_ah [.pointer (some ⟨p, 0, none⟩)] K σ := by
 obtain ⟨⟨q, gp, _⟩, _⟩ := h
 have gU : ∀ {k : Nat} {x y z w : Int}, gStore 4 [.pointer (some ⟨k, 0, some 0⟩), .agg #[.int .i64 x, .int .u64 y, .int .i64 z, .int .i64 w]] [.int .i64 0, .int .u64 0, .int .i64 0, .int .i64 0] = some [.int .i64 x, .int .u64 y, .int .i64 z, .int .i64 w] := fun {_ _ _ _ _} => rfl
 simp only [s_ah, w_ah, ldG gp (show sub (a.l q) 4 4 true = some (.agg #[.int .i64 a.oE, .int .u64 a.oH, .int .i64 a.oV, .int .i64 a.oS]) from rfl), gU, sub4, ruS, ruL, ruE, Nat.reduceAdd, reduceIte, Int.reduceLT, Int.reduceLE, Int.reduceEq, Int.reduceNeg, Int.reduceAdd, Int.reduceSub, Nat.reduceLeDiff, Nat.reduceLT]
 exact hk
theorem c_ActDo (hN : N.ok) (hC : C.ok) (hA : isA N A σ) (hwho : 0 ≤ who ∧ who < C.T) {k sz h ix v old : Int} {own : Bool} (hok : okAct k v old) (I : Int → Aa → Ar → Prop) (D : Aa → Ar → Prop) (h0 : I 0 (Aa.new (Wk.of k sz h ix v old own)) A)
  (hs : ∀ i a A, 0 ≤ i → i < 500 → I i a A → (a.ip = 0 ∨ a.ip = 1 ∨ a.ip = 2) ∧ (a.pc = 0 ∨ a.pc = 1 ∨ a.pc = 2) ∧ (a.pc = 1 → a.wk.fit C A) ∧ (∀ i, 0 ≤ A.w i ∧ A.w i < 18446744073709551616) ∧ C.len ≤ A.n ∧ if (a.step C who A).1 = true then D (a.step C who A).2.1 (a.step C who A).2.2 else I (i + 1) (a.step C who A).2.1 (a.step C who A).2.2)
  (he : ∀ a A, I 500 a A → D a A) (hk : ∀ a A' τ, D a A' → isA N A' τ → Keep N.l σ τ → K (.agg #[.int .i64 a.oE, .int .u64 a.oH, .int .i64 a.oV, .int .i64 a.oS]) τ) :
  s_a5 [N.env C who, .agg #[.int .i64 k, .int .i64 sz, .int .u64 h, .int .i64 ix, .int .i64 v, .int .i64 old, .bool own]] K σ := by
 have gs : ∀ x y z w : Int, gStore 4 [.pointer (some ⟨4, 0, some 0⟩), .agg #[.int .i64 x, .int .u64 y, .int .i64 z, .int .i64 w]] [.int .i64 0, .int .u64 0, .int .i64 0, .int .i64 0] = some [.int .i64 x, .int .u64 y, .int .i64 z, .int .i64 w] := fun _ _ _ _ => rfl
 simp only [s_a5, w_a5, box9, box7, sub7, ruS, ruL, ruE, Nat.reduceAdd, reduceIte, Int.reduceLT, Int.reduceLE, Int.reduceEq, Int.reduceNeg, Int.reduceAdd, Int.reduceSub, Nat.reduceLeDiff, Nat.reduceLT]
 refine c_ActNew hA hok fun p q τ0 hp hq ho x0 => ?_
 simp only [ruS, ruL, ruE, Nat.reduceAdd, reduceIte, Int.reduceLT, Int.reduceLE, Int.reduceEq, Int.reduceNeg, Int.reduceAdd, Int.reduceSub, Nat.reduceLeDiff, Nat.reduceLT]
 have fin : ∀ a A' τ, D a A' → isA N A' τ → (∃ O, TOb N p O a τ) → Keep N.l σ τ → w_a5_j1 K [.pointer (some ⟨p, 0, none⟩)] [[.int .i64 0, .int .u64 0, .int .i64 0, .int .i64 0]] τ := by
  rintro a A' τ hD hA' ⟨O, hO⟩ hK
  simp only [w_a5_j1, w_a5_j1b, ruS, ruL, ruE, Nat.reduceAdd, reduceIte, Int.reduceLT, Int.reduceLE, Int.reduceEq, Int.reduceNeg, Int.reduceAdd, Int.reduceSub, Nat.reduceLeDiff, Nat.reduceLT]
  refine TOb.done hO ?_
  simp only [gs, sub4, ruS, ruL, ruE, Nat.reduceAdd, reduceIte, Int.reduceLT, Int.reduceLE, Int.reduceEq, Int.reduceNeg, Int.reduceAdd, Int.reduceSub, Nat.reduceLeDiff, Nat.reduceLT]
  exact hk a A' τ hD hA' hK
 refine xLoop_i (fun i => [.pointer (some ⟨p, 0, none⟩), .int .i64 i]) [N.el C who, [.int .i64 0, .int .u64 0, .int .i64 0, .int .i64 0]] 500
  (fun i τ => ∃ a A' O, 0 ≤ i ∧ i ≤ 500 ∧ isA N A' τ ∧ I i a A' ∧ TOb N p O a τ ∧ (∀ j ∈ O, σ.get j = none) ∧ Keep N.l σ τ) ?_ ⟨_, A, [q], by omega, by omega, hA.ext x0, h0, ho, fun j hj => by rw [List.mem_singleton.1 hj]; exact hq, x0.keep⟩
 rintro i τ ⟨a, A', O, i0, i1, hA', hI, hO, hOn, hK⟩ R hR
 simp only [w_law15_Do_l6, w_law15_Do_l6b, ruS, ruL, ruE, Nat.reduceAdd, reduceIte, Int.reduceLT, Int.reduceLE, Int.reduceEq, Int.reduceNeg, Int.reduceAdd, Int.reduceSub, Nat.reduceLeDiff, Nat.reduceLT]
 by_cases ci : i < 500
 ·simp only [ci, ruS, ruL, ruE, Nat.reduceAdd, reduceIte, Int.reduceLT, Int.reduceLE, Int.reduceEq, Int.reduceNeg, Int.reduceAdd, Int.reduceSub, Nat.reduceLeDiff, Nat.reduceLT]
  obtain ⟨hip, hpc, hf, hw, hn, hst⟩ := hs i a A' i0 ci hI
  refine c_ActStep hN hC hA' hO hw hn hwho hip hpc hf fun O' τ' hO' hA2 hO2 hK2 => ?_
  have hK3 : Keep N.l σ τ' := by
   intro j b hj hn'
   refine hK2 j b (hK j b hj hn') fun hm => ?_
   rcases List.mem_cons.1 hm with rfl | hm
   ·rw [hp] at hj; cases hj
   rcases List.mem_append.1 hm with h | h
   ·rw [hOn j h] at hj; cases hj
   ·exact hn' h
  have hOn' : ∀ j ∈ O', σ.get j = none := by
   intro j hj
   rcases hO' j hj with h | h
   ·exact hOn j h
   ·cases e : σ.get j with
    | none => rfl
    | some b => rw [hK j b e (hA'.new h)] at h; cases h
  generalize a.step C who A' = r at *
  obtain ⟨d, a', A2⟩ := r
  dsimp only at *
  cases d with
  | true =>
   simp only [ruS, ruL, ruE, Nat.reduceAdd, reduceIte, Int.reduceLT, Int.reduceLE, Int.reduceEq, Int.reduceNeg, Int.reduceAdd, Int.reduceSub, Nat.reduceLeDiff, Nat.reduceLT] at hst ⊢
   exact fin a' A2 τ' hst hA2 ⟨O', hO2⟩ hK3
  | false =>
   simp only [ruS, ruL, ruE, Nat.reduceAdd, reduceIte, Int.reduceLT, Int.reduceLE, Int.reduceEq, Int.reduceNeg, Int.reduceAdd, Int.reduceSub, Nat.reduceLeDiff, Nat.reduceLT] at hst ⊢
   rw [IntWalk.i64_in (i + 1) (by omega)]
   exact hR _ ci ⟨a', A2, O', by omega, by omega, hA2, hst, hO2, hOn', hK3⟩
 ·simp only [ci, ruS, ruL, ruE, Nat.reduceAdd, reduceIte, Int.reduceLT, Int.reduceLE, Int.reduceEq, Int.reduceNeg, Int.reduceAdd, Int.reduceSub, Nat.reduceLeDiff, Nat.reduceLT]
  have : i = 500 := by omega
  subst this
  exact fin a A' τ (he _ _ hI) hA' ⟨O, hO⟩ hK
end Go.Fl
namespace Go.Fl
open Go
set_option linter.unusedVariables false
set_option linter.unusedSimpArgs false
variable {N : Nm} {A B : Ar} {σ : Mem} {K : Value → Mem → Prop} {C : Cf} {who : Int}
def Ar.pin (A : Ar) (who : Int) : Ar := ((((((A.by who).load 0).by who).store (6 + who) (IntKind.u64.wrap (A.w 0 + 1))).by who).load 0)
def Ar.out (A : Ar) (who : Int) : Ar := (A.by who).store (6 + who) 0
def AcJ (who : Int) (A0 : Ar) (k0 : Wk) (I : Int → Wk → Ar → Prop) (D : Wk → Ar → Prop) (i : Int) (a : Aa) (A : Ar) : Prop :=
 (i = 0 ∧ a = Aa.new k0 ∧ A = A0) ∨
 (i = 1 ∧ a = { Aa.new k0 with ip := 1, ep := A0.w 0 } ∧ A = (A0.by who).load 0) ∨
 (i = 2 ∧ a = { Aa.new k0 with ip := 2, ep := A0.w 0 } ∧ A = (((A0.by who).load 0).by who).store (6 + who) (IntKind.u64.wrap (A0.w 0 + 1))) ∨
 (3 ≤ i ∧ i ≤ 490 ∧ a.ip = 2 ∧ a.pc = 1 ∧ I (i - 3) a.wk A) ∨
 (i ≤ 491 ∧ a.ip = 2 ∧ a.pc = 2 ∧ a.oE = a.wk.oE ∧ a.oH = a.wk.oH ∧ a.oV = a.wk.oV ∧ a.oS = a.wk.oS ∧ D a.wk A)
theorem Aa.st_wk {a : Aa} (e : a.pc = 1) (c : (a.wk.step C who A).1 = true) : a.step C who A = (false, { a with wk := (a.wk.step C who A).2.1, oE := (a.wk.step C who A).2.1.oE, oH := (a.wk.step C who A).2.1.oH, oV := (a.wk.step C who A).2.1.oV, oS := (a.wk.step C who A).2.1.oS, pc := 2 }, (a.wk.step C who A).2.2) := by
 unfold Aa.step; rw [if_neg (by omega), if_pos e, if_pos c]
theorem Aa.st_go {a : Aa} (e : a.pc = 1) (c : ¬ (a.wk.step C who A).1 = true) : a.step C who A = (false, { a with wk := (a.wk.step C who A).2.1 }, (a.wk.step C who A).2.2) := by
 unfold Aa.step; rw [if_neg (by omega), if_pos e, if_neg c]
theorem Aa.st_out {a : Aa} (e : a.pc = 2) : a.step C who A = (true, a, A.out who) := by
 unfold Aa.step; rw [if_neg (by omega), if_neg (by omega)]; rfl
theorem c_ActW (hN : N.ok) (hC : C.ok) (hA : isA N A σ) (hwho : 0 ≤ who ∧ who < C.T) (hw : ∀ i, 0 ≤ A.w i ∧ A.w i < 18446744073709551616) (hn : C.len ≤ A.n) {k sz h ix v old : Int} {own : Bool} (hok : okAct k v old) (I : Int → Wk → Ar → Prop) (D : Wk → Ar → Prop) (h0 : I 0 (Wk.of k sz h ix v old own) (A.pin who))
  (hs : ∀ i m A, 0 ≤ i → i < 487 → I i m A → m.fit C A ∧ (∀ i, 0 ≤ A.w i ∧ A.w i < 18446744073709551616) ∧ C.len ≤ A.n ∧ if (m.step C who A).1 = true then D (m.step C who A).2.1 (m.step C who A).2.2 else I (i + 1) (m.step C who A).2.1 (m.step C who A).2.2)
  (hb : ∀ m A, D m A → (∀ i, 0 ≤ A.w i ∧ A.w i < 18446744073709551616) ∧ C.len ≤ A.n)
  (he : ∀ m A, ¬ I 487 m A) (hk : ∀ m A' τ, D m A' → isA N (A'.out who) τ → Keep N.l σ τ → K (.agg #[.int .i64 m.oE, .int .u64 m.oH, .int .i64 m.oV, .int .i64 m.oS]) τ) :
  s_a5 [N.env C who, .agg #[.int .i64 k, .int .i64 sz, .int .u64 h, .int .i64 ix, .int .i64 v, .int .i64 old, .bool own]] K σ := by
 have hT := hC.T; have hS := hC.S; have hC3 := hC.C; have hl := len_bd hC
 refine c_ActDo hN hC hA hwho hok (AcJ who A (Wk.of k sz h ix v old own) I D) (fun a A' => a.oE = a.wk.oE ∧ a.oH = a.wk.oH ∧ a.oV = a.wk.oV ∧ a.oS = a.wk.oS ∧ ∃ B, D a.wk B ∧ A' = B.out who) (.inl ⟨rfl, rfl, rfl⟩) ?_ ?_ ?_
 ·rintro i a A' i0 i5 (⟨rfl, rfl, rfl⟩ | ⟨rfl, rfl, rfl⟩ | ⟨rfl, rfl, rfl⟩ | ⟨i1, i2, e1, e2, hI⟩ | ⟨i1, e1, e2, o1, o2, o3, o4, hD⟩)
  ·refine ⟨.inl rfl, .inl rfl, fun e => absurd e (by show ¬ (0 : Int) = 1; decide), hw, hn, ?_⟩
   exact .inr (.inl ⟨rfl, rfl, rfl⟩)
  ·refine ⟨.inr (.inl rfl), .inl rfl, fun e => absurd e (by show ¬ (0 : Int) = 1; decide), hw, hn, ?_⟩
   exact .inr (.inr (.inl ⟨rfl, rfl, rfl⟩))
  ·have hW := wrap_in (A.w 0 + 1)
   have e0 : ((((A.by who).load 0).by who).store (6 + who) (IntKind.u64.wrap (A.w 0 + 1))).w 0 = A.w 0 := by
    rw [store_w, upd_ne _ _ (by omega)]; rfl
   refine ⟨.inr (.inr rfl), .inl rfl, fun e => absurd e (by show ¬ (0 : Int) = 1; decide), ?_, ?_, ?_⟩
   ·intro j
    rw [store_w]
    unfold upd
    split
    ·exact hW
    ·exact hw j
   ·exact hn
   ·have st : (({ Aa.new (Wk.of k sz h ix v old own) with ip := 2, ep := A.w 0 } : Aa).step C who ((((A.by who).load 0).by who).store (6 + who) (IntKind.u64.wrap (A.w 0 + 1)))) = (false, { Aa.new (Wk.of k sz h ix v old own) with ip := 2, ep := A.w 0, pc := 1 }, A.pin who) := by
     unfold Aa.step; dsimp only [Aa.new]; simp only [e0, if_true, show ¬ (2 : Int) = 0 by decide, show ¬ (2 : Int) = 1 by decide, if_false]; rfl
    rw [st]
    exact .inr (.inr (.inr (.inl ⟨by omega, by omega, rfl, rfl, h0⟩)))
  ·by_cases c : i = 490
   ·subst c; exact absurd hI (he _ _)
   obtain ⟨hf, hw', hn', hst⟩ := hs (i - 3) a.wk A' (by omega) (by omega) hI
   refine ⟨.inr (.inr e1), .inr (.inl e2), fun _ => hf, hw', hn', ?_⟩
   by_cases c1 : (a.wk.step C who A').1 = true
   ·rw [if_pos c1] at hst
    rw [Aa.st_wk e2 c1]
    exact .inr (.inr (.inr (.inr ⟨by omega, e1, rfl, rfl, rfl, rfl, rfl, hst⟩)))
   ·rw [if_neg c1] at hst
    rw [Aa.st_go e2 c1]
    exact .inr (.inr (.inr (.inl ⟨by omega, by omega, e1, e2, by rw [show i + 1 - 3 = i - 3 + 1 by omega]; exact hst⟩)))
  ·obtain ⟨hw', hn'⟩ := hb _ _ hD
   refine ⟨.inr (.inr e1), .inr (.inr e2), fun e => by omega, hw', hn', ?_⟩
   rw [Aa.st_out e2]
   exact ⟨o1, o2, o3, o4, A', hD, rfl⟩
 ·rintro a A' (⟨e, _⟩ | ⟨e, _⟩ | ⟨e, _⟩ | ⟨_, e, _⟩ | ⟨e, _⟩) <;> omega
 ·rintro a A' τ ⟨o1, o2, o3, o4, B, hD, rfl⟩ hA' hK
  rw [o1, o2, o3, o4]
  exact hk _ _ _ hD hA' hK
end Go.Fl
namespace Go.Fl
open Go
set_option linter.unusedVariables false
set_option linter.unusedSimpArgs false
variable {N : Nm} {A B : Ar} {σ : Mem} {K : Value → Mem → Prop} {C : Cf} {who : Int}
theorem pin_w : (A.pin who).w = upd A.w (6 + who) (IntKind.u64.wrap (A.w 0 + 1)) := rfl
theorem out_w : (A.out who).w = upd A.w (6 + who) 0 := rfl
theorem pin_far (hC : C.ok) (hwho : 0 ≤ who ∧ who < C.T) {u : Int → Int} (hu : ∀ j, 0 ≤ j → j < C.C → 0 ≤ u j) {a : Int} (h : a = 1 ∨ (2 ≤ a ∧ a < 6) ∨ (∃ s, 0 ≤ s ∧ s < C.S ∧ a = C.slot s + 1) ∨ (∃ j, 0 ≤ j ∧ j < C.C ∧ (a = C.chunk j ∨ a = C.chunk j + 1)) ∨ (∃ j i, 0 ≤ j ∧ j < C.C ∧ u j ≤ i ∧ i < C.W ∧ a = C.base j + i)) : a ≠ 6 + who := by
 have hT := hC.T; have hS := hC.S; have hC3 := hC.C
 rcases h with h | h | ⟨s, s0, s1, h⟩ | ⟨j, j0, j1, h⟩ | ⟨j, i, j0, j1, i0, i1, h⟩
 ·omega
 ·omega
 ·unfold Cf.slot at h; omega
 ·unfold Cf.chunk at h; omega
 ·have := hu j j0 j1
  have hm := mulW hC j0 (by omega)
  unfold Cf.base at h; omega
theorem Bg.aw_pin {b : Bg} (hC : C.ok) (hwho : 0 ≤ who ∧ who < C.T) {w : Int → Int} {x : Int} (h : b.aw C w) : b.aw C (upd w (6 + who) x) :=
 Aw.keep hC h fun a ha => upd_ne _ _ (pin_far hC hwho (fun j j0 j1 => Aw.u0 h j0 j1) ha)
theorem Pa.pin {b : Int} (hC : C.ok) (hwho : 0 ≤ who ∧ who < C.T) (h : Pa C A b) (hb : b < 9000000000000000000) : Pa C (A.pin who) (b + 3) := by
 have h1 := (h.ok.by (who := who)).load (a := 0) (by omega)
 have h2 := (h1.by (who := who)).store (a := 6 + who) (by omega) (wrap_in (A.w 0 + 1))
 have h3 := (h2.by (who := who)).load (a := 0) (by omega)
 refine ⟨?_, h.n, fun c c0 c3 => ?_⟩
 ·rw [show b + 3 = b + 1 + 1 + 1 by omega]; exact h3
 ·rw [pin_w, upd_ne _ _ (by omega)]; exact h.op c c0 c3
theorem Pa.out {b : Int} (hC : C.ok) (hwho : 0 ≤ who ∧ who < C.T) (h : Pa C A b) (hb : b < 9000000000000000000) : Pa C (A.out who) (b + 1) := by
 refine ⟨(h.ok.by (who := who)).store (a := 6 + who) (by omega) ⟨by decide, by decide⟩, h.n, fun c c0 c3 => ?_⟩
 rw [out_w, upd_ne _ _ (by omega)]; exact h.op c c0 c3
end Go.Fl
namespace Go.Fl
open Go
set_option linter.unusedVariables false
set_option linter.unusedSimpArgs false
variable {N : Nm} {A B : Ar} {σ : Mem} {K : Value → Mem → Prop} {C : Cf} {who : Int}
theorem c_ActA (hN : N.ok) (hC : C.ok) (hA : isA N A σ) (hwho : 0 ≤ who ∧ who < C.T) {b : Bg} {size h ix v old bb : Int} {own : Bool} (hok : okAct 1 v old) (hP : Pa C A bb) (hb : bb + 3 < 2305843009213693952) (hAw : b.aw C A.w) (hlv : b.lvok C) (hcl : 0 ≤ classOf size)
  (hk : ∀ m A' τ, DnM C b size own (A.pin who).w (A.pin who).s m A' → Pa C A' (bb + 103) → A'.n = A.n → isA N (A'.out who) τ → Keep N.l σ τ → K (.agg #[.int .i64 m.a.oE, .int .u64 m.a.oH, .int .i64 m.a.oV, .int .i64 m.a.oS]) τ) :
  s_a5 [N.env C who, .agg #[.int .i64 1, .int .i64 size, .int .u64 h, .int .i64 ix, .int .i64 v, .int .i64 old, .bool own]] K σ := by
 have hCC := hC.C
 have hP3 := hP.pin hC hwho (by omega)
 have hAw3 : b.aw C (A.pin who).w := Bg.aw_pin hC hwho hAw
 refine c_ActW hN hC hA hwho hP.ok.w hP.n hok (fun i k A' => ∃ m, k = .al m ∧ Mkr C b size own (A.pin who) (bb + 3) i m A') (fun k A' => ∃ m, k = .al m ∧ DnM C b size own (A.pin who).w (A.pin who).s m A' ∧ Pa C A' (bb + 103) ∧ A'.n = A.n) ⟨_, rfl, .new hP3 hAw3⟩ ?_ ?_ ?_ ?_
 ·rintro i k A' i0 i1 ⟨m, rfl, h⟩
  refine ⟨h.fit hC hAw3 hcl, h.pa.ok.w, h.pa.n, ?_⟩
  have hkl := h.ph.kle hC
  obtain ⟨⟨⟨a, ht⟩, hla⟩, h2⟩ := h.step (who := who) hC hb hAw3 hlv hcl i0
  rcases h2 with ⟨d, h'⟩ | ⟨d, h', hP'⟩
  ·rw [if_neg (show ¬ ((Wk.al m).step C who A').1 = true from by show ¬ (m.step C who A').1 = true; rw [d]; decide)]; exact ⟨_, rfl, h'⟩
  ·rw [if_pos (show ((Wk.al m).step C who A').1 = true from d)]; exact ⟨_, rfl, h', hP'.mono (by omega), ht.n.trans h.n⟩
 ·rintro k A' ⟨m, rfl, h1, h2, h3⟩; exact ⟨h2.ok.w, h2.n⟩
 ·rintro k A' ⟨m, rfl, h⟩; have := h.ph.kle hC; omega
 ·rintro k A' τ ⟨m, rfl, h1, h2, h3⟩ hA' hK; exact hk m A' τ h1 h2 h3 hA' hK
end Go.Fl
namespace Go.Fl
open Go
set_option linter.unusedVariables false
set_option linter.unusedSimpArgs false
variable {N : Nm} {A B : Ar} {σ : Mem} {K : Value → Mem → Prop} {C : Cf} {who : Int}
structure Ol (C : Cf) (w : Int → Int) (n : Int) (own : Bool) (z a : Int) : Prop where
 nb : 0 ≤ n ∧ n < 18446744073709551616
 ok : hdOk n = true
 s : hdSl n < C.S
 st : slS (w (C.slot (hdSl n))) = 1
 ad : slA (w (C.slot (hdSl n))) = a
 ge : slG (w (C.slot (hdSl n))) = hdGe n
 hd : hdO (w a) = own ∧ hdS (w a) = z
 bd : C.base 0 ≤ a ∧ a + z < C.len
 z1 : 1 ≤ z
 cl : ∀ x, 0 ≤ x → x < z → ceF (w (a + 1 + x)) = false
def Looks (m : Ak) (c : Int) : Prop := m.a.kd = 1 ∨ m.a.kd = 3 ∧ ceV c ≠ m.a.old
def LvI (C : Cf) (A0 : Ar) (m0 : Ak) (z a k : Int) (m : Ak) (A : Ar) : Prop :=
 k = 0 ∧ m = m0 ∧ A = A0 ∨
 (A.w = A0.w ∧ A.s = A0.s + k ∧ A.n = A0.n ∧ (∀ bb, A0.ok bb → A.ok (bb + k))) ∧
  (m.a.kd = m0.a.kd ∧ m.a.n = m0.a.n ∧ m.a.ix = m0.a.ix ∧ m.a.v = m0.a.v ∧ m.a.old = m0.a.old ∧ m.a.own = m0.a.own ∧ m.a.hs = hdSl m0.a.n ∧ m.a.hg = hdGe m0.a.n ∧ m.a.w = A0.w (C.slot (hdSl m0.a.n))) ∧
  (k = 1 ∧ m.a.pc = 1 ∧ m.a.cell = 0 ∧ m.a.seen = A0.s + 1 ∨ (0 ≤ m0.a.ix ∧ m0.a.ix < z) ∧ (k = 2 ∧ m.a.pc = 2 ∧ m.a.cell = 0 ∨
   k = 3 ∧ m.a.cell = A0.w (a + 1 + m0.a.ix) ∧ m.a.rd = A0.s + 3 ∧ (m.a.pc = 5 ∧ ¬ Looks m0 m.a.cell ∨ m.a.pc = 6 ∧ Looks m0 m.a.cell)))
structure LvD (C : Cf) (A0 : Ar) (m0 : Ak) (z a : Int) (m : Ak) (A : Ar) : Prop where
  r : ¬ (0 ≤ m0.a.ix ∧ m0.a.ix < z) ∧ m.a.oE = 4 ∧ m.a.oV = 0 ∧ m.a.oS = A0.s + 1 ∧ A.s = A0.s + 2 ∧ A.w = A0.w ∨
    (0 ≤ m0.a.ix ∧ m0.a.ix < z) ∧ A.s = A0.s + 4 ∧ m.a.oV = ceV (A0.w (a + 1 + m0.a.ix)) ∧
      (Looks m0 (A0.w (a + 1 + m0.a.ix)) ∧ m.a.oE = (if m0.a.kd = 3 then 8 else 0) ∧ m.a.oS = A0.s + 3 ∧ A.w = A0.w ∨
       ¬ Looks m0 (A0.w (a + 1 + m0.a.ix)) ∧ m.a.oE = 0 ∧ m.a.oS = A0.s + 4 ∧ A.w = upd A0.w (a + 1 + m0.a.ix) (putCell m0.a.v false 0))
  h : m.a.oH = 0
  n : A.n = A0.n
  ok : ∀ bb, A0.ok bb → A.ok (bb + 4)
theorem LvI.step (hC : C.ok) {A0 : Ar} {k bb z a kd n ix v old : Int} {own : Bool} {m : Ak} (h : LvI C A0 (Ak.new kd n ix v old own) z a k m A) (ho : Ol C A0.w n own z a) (ok : A0.ok bb) (hb : bb < 4611686018427387904) (hl : C.len ≤ A0.n) (hb2 : (A0.n : Int) ≤ 200000000) :
  m.fit C A ∧ ((∀ i, 0 ≤ A.w i ∧ A.w i < 18446744073709551616) ∧ C.len ≤ A.n) ∧
  (((m.step C who A).1 = false ∧ LvI C A0 (Ak.new kd n ix v old own) z a (k + 1) (m.step C who A).2.1 (m.step C who A).2.2) ∨ ((m.step C who A).1 = true ∧ LvD C A0 (Ak.new kd n ix v old own) z a (m.step C who A).2.1 (m.step C who A).2.2)) := by
 have hT := hC.T
 have hS := hC.S
 have hCC := hC.C
 have hll := len_bd hC
 have hsl := hdSl_bd ho.nb.1
 have hos := ho.s
 have hbd := ho.bd
 have hz1 := ho.z1
 have hb0 : C.base 0 = 6 + C.T + 2 * C.S + 3 * C.C := by unfold Cf.base; omega
 have hsb : 0 ≤ C.slot (hdSl n) ∧ C.slot (hdSl n) < C.base 0 := by unfold Cf.slot; omega
 have hlv : lives (A0.w (C.slot (hdSl n))) (hdGe n) := ⟨.inl ho.st, ho.ge⟩
 have hn0 : (Ak.new kd n ix v old own).a.n = n := rfl
 have hk0 : (Ak.new kd n ix v old own).a.kd = kd := rfl
 have hi0 : (Ak.new kd n ix v old own).a.ix = ix := rfl
 have hv0 : (Ak.new kd n ix v old own).a.v = v := rfl
 have hd0 : (Ak.new kd n ix v old own).a.old = old := rfl
 have hw0 : (Ak.new kd n ix v old own).a.own = own := rfl
 rcases h with ⟨rfl, rfl, rfl⟩ | ⟨⟨ew, es, en, eo⟩, ⟨f1, f2, f3, f4, f5, f6, f7, f8, f9⟩, h⟩
 ·refine ⟨Ak.new_fit hC ho.nb hb2, ⟨ok.w, hl⟩, ?_⟩
  have p0 : (Ak.new kd n ix v old own).a.pc = 0 := rfl
  have a1 := aft_load (who := who) (A := A) (a := C.slot (hdSl n)) ok (by omega)
  have e0 : (Ak.new kd n ix v old own).step C who A = (((Ak.new kd n ix v old own).a.step C who A).1, ⟨((Ak.new kd n ix v old own).a.step C who A).2.1, (Ak.new kd n ix v old own).h⟩, ((Ak.new kd n ix v old own).a.step C who A).2.2) := by
   unfold Ak.step; rw [if_neg (by rw [p0]; decide), if_neg (by rw [p0]; decide)]
  have e : (Ak.new kd n ix v old own).a.step C who A = (false, { (Ak.new kd n ix v old own).a with hs := hdSl n, hg := hdGe n, w := A.w (C.slot (hdSl n)), seen := ((A.by who).load (C.slot (hdSl n))).s, pc := 1 }, (A.by who).load (C.slot (hdSl n))) := by
   unfold Ac.step; rw [if_pos p0, if_neg (by rw [hn0]; rintro (q | q); rw [ho.ok] at q; cases q; omega), if_pos (by rw [hn0]; exact hlv)]; rfl
  rw [e0, e]
  exact .inl ⟨rfl, .inr ⟨⟨rfl, a1.s, rfl, fun b2 o2 => a1.ok (by decide) o2 o2.w⟩, ⟨rfl, rfl, rfl, rfl, rfl, rfl, rfl, rfl, rfl⟩, .inl ⟨rfl, rfl, rfl, a1.s⟩⟩⟩
 rw [hk0] at f1; rw [hn0] at f2 f7 f8 f9; rw [hi0] at f3 h; rw [hv0] at f4; rw [hd0] at f5; rw [hw0] at f6
 have ok' := eo bb ok
 have hkk : 0 ≤ k ∧ k ≤ 3 := by rcases h with ⟨h, _⟩ | ⟨_, ⟨h, _⟩ | ⟨h, _⟩⟩ <;> omega
 have esa : slA m.a.w = a := by rw [f9]; exact ho.ad
 have eat : m.a.at' = a + 1 + ix := by unfold Ac.at'; rw [esa, f3]
 have hcell : 0 ≤ m.a.cell ∧ m.a.cell < 18446744073709551616 := by
  rcases h with ⟨_, _, h, _⟩ | ⟨_, ⟨_, _, h⟩ | ⟨_, h, _⟩⟩
  ·rw [h]; decide
  ·rw [h]; decide
  ·rw [h]; exact ok.w _
 have hfit : m.fit C A := by
  refine ⟨⟨?_, by rw [f2]; exact ho.nb, by rw [f7]; exact ⟨hsl.1.1, hos⟩, by rw [f9]; exact ok.w _, hcell, fun _ => by omega, fun e => ?_, by omega⟩, fun e => ?_⟩
  ·rcases h with ⟨_, h, _⟩ | ⟨_, ⟨_, h, _⟩ | ⟨_, _, _, ⟨h, _⟩ | ⟨h, _⟩⟩⟩ <;> omega
  ·rw [eat]
   rcases h with ⟨_, h, _⟩ | ⟨hi, _⟩ <;> omega
  ·rcases h with ⟨_, h, _⟩ | ⟨_, ⟨_, h, _⟩ | ⟨_, _, _, ⟨h, _⟩ | ⟨h, _⟩⟩⟩ <;> omega
 refine ⟨hfit, ⟨ok'.w, by omega⟩, ?_⟩
 rcases h with ⟨rfl, h1, h2, h3⟩ | ⟨hi, ⟨rfl, h1, h2⟩ | ⟨rfl, h1, h2, h3⟩⟩
 ·have a1 := aft_load (who := who) (A := A) (a := slA m.a.w) ok' (by omega)
  have e0 : m.step C who A = ((m.a.step C who A).1, ⟨(m.a.step C who A).2.1, m.h⟩, (m.a.step C who A).2.2) := by
   unfold Ak.step; rw [if_neg (by omega), if_neg (by omega)]
  have own' : ¬ hdO (A.w (slA m.a.w)) ≠ m.a.own := by rw [esa, ew, f6, ho.hd.1]; simp
  by_cases c : m.a.ix < 0 ∨ hdS (A.w (slA m.a.w)) ≤ m.a.ix
  ·have e : m.a.step C who A = (true, ({ m.a with size := hdS (A.w (slA m.a.w)), pc := 2 } : Ac).fin 4 0 m.a.seen, (A.by who).load (slA m.a.w)) := by
    unfold Ac.step; rw [if_neg (by omega), if_pos h1, if_neg own', if_pos c]
   rw [e0, e]
   rw [esa, ew, ho.hd.2, f3] at c
   exact .inr ⟨rfl, ⟨.inl ⟨by rw [hi0]; omega, rfl, rfl, h3, by have := a1.s; show ((A.by who).load (slA m.a.w)).s = _; omega, ew⟩, rfl, en, fun b2 o2 => ok_mono (a1.ok (by decide) (eo b2 o2) (eo b2 o2).w) (by omega)⟩⟩
  ·have e : m.a.step C who A = (false, { m.a with size := hdS (A.w (slA m.a.w)), pc := 2 }, (A.by who).load (slA m.a.w)) := by
    unfold Ac.step; rw [if_neg (by omega), if_pos h1, if_neg own', if_neg c]
   rw [e0, e]
   rw [esa, ew, ho.hd.2, f3] at c
   exact .inl ⟨rfl, .inr ⟨⟨ew, by have := a1.s; show ((A.by who).load (slA m.a.w)).s = _; omega, en, fun b2 o2 => by rw [show b2 + (1 + 1) = b2 + 1 + 1 by omega]; exact a1.ok (by decide) (eo b2 o2) (eo b2 o2).w⟩, ⟨f1, f2, f3, f4, f5, f6, f7, f8, f9⟩, .inr ⟨by rw [hi0]; omega, .inl ⟨rfl, rfl, h2⟩⟩⟩⟩
 ·have a1 := aft_load (who := who) (A := A) (a := m.a.at') ok' (by omega)
  have e0 : m.step C who A = ((m.a.step C who A).1, ⟨(m.a.step C who A).2.1, Hl.new m.a.hs m.a.w m.a.size⟩, (m.a.step C who A).2.2) := by
   unfold Ak.step; rw [if_neg (by omega), if_pos h1]
  have e : m.a.step C who A = (false, { m.a with cell := A.w m.a.at', rd := ((A.by who).load m.a.at').s, pc := ({ m.a with cell := A.w m.a.at' } : Ac).nxt }, (A.by who).load m.a.at') := by
   unfold Ac.step; rw [if_neg (by omega), if_neg (by omega), if_pos h1]
  rw [e0, e]
  have ecl : A.w m.a.at' = A0.w (a + 1 + ix) := by rw [eat, ew]
  have hce := ho.cl ix hi.1 hi.2
  have nx : ({ m.a with cell := A.w m.a.at' } : Ac).nxt = if m.a.kd = 1 ∨ m.a.kd = 3 ∧ ceV (A.w m.a.at') ≠ m.a.old then 6 else 5 := by
   unfold Ac.nxt
   dsimp only
   have hs1 : ¬ slS m.a.w = 4 := by rw [f9, ho.st]; decide
   rw [if_neg hs1, if_pos (show ceF (A.w m.a.at') = false ∨ ceN (A.w m.a.at') < slV m.a.w from .inl (by rw [ecl]; exact hce))]
  refine .inl ⟨rfl, .inr ⟨⟨ew, by have := a1.s; show ((A.by who).load m.a.at').s = _; omega, en, fun b2 o2 => by rw [show b2 + (2 + 1) = b2 + 2 + 1 by omega]; exact a1.ok (by decide) (eo b2 o2) (eo b2 o2).w⟩, ⟨f1, f2, f3, f4, f5, f6, f7, f8, f9⟩, .inr ⟨hi, .inr ⟨rfl, ecl, by have := a1.s; show ((A.by who).load m.a.at').s = _; omega, ?_⟩⟩⟩⟩
  show ({ m.a with cell := A.w m.a.at' } : Ac).nxt = 5 ∧ ¬ Looks _ (A.w m.a.at') ∨ ({ m.a with cell := A.w m.a.at' } : Ac).nxt = 6 ∧ Looks _ (A.w m.a.at')
  rw [nx, f1, f5]
  unfold Looks
  rw [hk0, hd0]
  by_cases c : kd = 1 ∨ kd = 3 ∧ ceV (A.w m.a.at') ≠ old
  ·rw [if_pos c]; exact .inr ⟨rfl, c⟩
  ·rw [if_neg c]; exact .inl ⟨rfl, c⟩
 ·have e0 : m.step C who A = ((m.a.step C who A).1, ⟨(m.a.step C who A).2.1, m.h⟩, (m.a.step C who A).2.2) := by
   unfold Ak.step; rw [if_neg (by rcases h3 with ⟨h, _⟩ | ⟨h, _⟩ <;> omega), if_neg (by rcases h3 with ⟨h, _⟩ | ⟨h, _⟩ <;> omega)]
  rcases h3 with ⟨hp, hq⟩ | ⟨hp, hq⟩
  ·have a1 := aft_cas (who := who) (A := A) (a := m.a.at') (o := m.a.cell) (v := putCell m.a.v false 0) ok' (by omega)
   have ec : A.w m.a.at' = m.a.cell := by rw [eat, ew, h1]
   rw [if_pos ec] at a1
   have e : m.a.step C who A = (true, ({ m.a with pc := 0 } : Ac).fin 0 (ceV m.a.cell) ((A.by who).cas m.a.at' m.a.cell (putCell m.a.v false 0)).s, (A.by who).cas m.a.at' m.a.cell (putCell m.a.v false 0)) := by
    unfold Ac.step; rw [if_neg (by omega), if_neg (by omega), if_neg (by omega), if_neg (by omega), if_pos hp, if_pos ec]
   rw [e0, e]
   refine .inr ⟨rfl, ⟨.inr ⟨hi, by have := a1.s; show ((A.by who).cas _ _ _).s = _; omega, by show ceV m.a.cell = _; rw [h1, hi0], .inr ⟨by rw [hi0, ← h1]; exact hq, rfl, by have := a1.s; show ((A.by who).cas _ _ _).s = _; omega, ?_⟩⟩, rfl, by show ((A.by who).cas _ _ _).n = _; rw [a1.n, en], fun b2 o2 => ?_⟩⟩
   ·show ((A.by who).cas _ _ _).w = _; rw [a1.w, ew, eat, hi0, hv0, f4]
   ·rw [show b2 + 4 = b2 + 3 + 1 by omega]
    exact a1.ok (by decide) (eo b2 o2) fun i => upd_cases (P := fun x => 0 ≤ x ∧ x < 18446744073709551616) (putCell_in _ _ _) (ok'.w i)
  ·have a1 := aft_load (who := who) (A := A) (a := C.slot m.a.hs) ok' (by omega)
   have l1 : lives (A.w (C.slot m.a.hs)) m.a.hg := by rw [f7, f8, ew]; exact hlv
   have l2 : slA (A.w (C.slot m.a.hs)) = slA m.a.w := by rw [f7, f9, ew]
   have e : m.a.step C who A = (true, m.a.fin (if m.a.kd = 3 then 8 else 0) (ceV m.a.cell) m.a.rd, (A.by who).load (C.slot m.a.hs)) := by
    unfold Ac.step; rw [if_neg (by omega), if_neg (by omega), if_neg (by omega), if_neg (by omega), if_neg (by omega), if_pos l1, if_pos l2]
   rw [e0, e]
   exact .inr ⟨rfl, ⟨.inr ⟨hi, by have := a1.s; show ((A.by who).load _).s = _; omega, by show ceV m.a.cell = _; rw [h1, hi0], .inl ⟨by rw [hi0, ← h1]; exact hq, by show (if m.a.kd = 3 then 8 else 0) = _; rw [f1, hk0], h2, ew⟩⟩, rfl, en, fun b2 o2 => by rw [show b2 + 4 = b2 + 3 + 1 by omega]; exact a1.ok (by decide) (eo b2 o2) (eo b2 o2).w⟩⟩
end Go.Fl
namespace Go.Fl
open Go
set_option linter.unusedVariables false
set_option linter.unusedSimpArgs false
variable {N : Nm} {A B : Ar} {σ : Mem} {K : Value → Mem → Prop} {C : Cf} {who : Int}
theorem Wk.of2 {sz h ix v old : Int} {own : Bool} : Wk.of 2 sz h ix v old own = .dr (Dm.new h own) := rfl
theorem Wk.of3 {k sz h ix v old : Int} {own : Bool} (hk : 3 ≤ k) : Wk.of k sz h ix v old own = .ac (Ak.new (k - 2) h ix v old own) := by
 unfold Wk.of; rw [if_neg (by omega), if_neg (by omega)]
theorem Dm.oH0 {m : Dm} (h : m.d.oH = 0) : (m.step C who A).2.1.d.oH = 0 := by
 unfold Dm.step
 dsimp only
 (repeat' split) <;> first | exact h | rfl
theorem c_ActNa (hN : N.ok) (hC : C.ok) (hA : isA N A σ) (hwho : 0 ≤ who ∧ who < C.T) {k size h ix v old bb : Int} {own : Bool} (hok : okAct k v old) (k3 : 3 ≤ k) (h0 : 0 ≤ h ∧ h < 18446744073709551616) (hP : Pa C A bb) (hb : bb + 3 < 2305843009213693952) (hb2 : (A.n : Int) ≤ 200000000) (hn : NoDrop C (A.pin who).w h own)
  (hk : ∀ m A' τ, NaD (A.pin who) m A' → isA N (A'.out who) τ → Keep N.l σ τ → K (.agg #[.int .i64 3, .int .u64 0, .int .i64 0, .int .i64 m.a.oS]) τ) :
  s_a5 [N.env C who, .agg #[.int .i64 k, .int .i64 size, .int .u64 h, .int .i64 ix, .int .i64 v, .int .i64 old, .bool own]] K σ := by
 have hP3 := hP.pin hC hwho (by omega)
 refine c_ActW hN hC hA hwho hP.ok.w hP.n hok (fun i w A' => ∃ m, w = .ac m ∧ NaI C (A.pin who) (Ak.new (k - 2) h ix v old own) i m A') (fun w A' => ∃ m, w = .ac m ∧ NaD (A.pin who) m A') ⟨_, Wk.of3 k3, .inl ⟨rfl, rfl, rfl⟩⟩ ?_ ?_ ?_ ?_
 ·rintro i w A' i0 i1 ⟨m, rfl, h'⟩
  obtain ⟨q1, q2, q3⟩ := h'.step (who := who) hC hn h0 hP3.ok (by omega) hP3.n hb2
  refine ⟨q1, q2.1.w, q2.2.1, ?_⟩
  rcases q3 with ⟨d, h'⟩ | ⟨d, h'⟩
  ·rw [if_neg (show ¬ ((Wk.ac m).step C who A').1 = true from by show ¬ (m.step C who A').1 = true; rw [d]; decide)]; exact ⟨_, rfl, h'⟩
  ·rw [if_pos (show ((Wk.ac m).step C who A').1 = true from d)]; exact ⟨_, rfl, h'⟩
 ·rintro w A' ⟨m, rfl, hD⟩; exact ⟨(hD.ok _ hP3.ok).w, by rw [hD.n]; exact hP3.n⟩
 ·rintro w A' ⟨m, rfl, h' | h'⟩
  ·have := h'.1; omega
  ·have := h'.1; omega
 ·rintro w A' τ ⟨m, rfl, hD⟩ hA' hK
  show K (.agg #[.int .i64 m.a.oE, .int .u64 m.a.oH, .int .i64 m.a.oV, .int .i64 m.a.oS]) τ
  rw [hD.e.1, hD.e.2.1, hD.e.2.2]
  exact hk m A' τ hD hA' hK
theorem c_ActL (hN : N.ok) (hC : C.ok) (hA : isA N A σ) (hwho : 0 ≤ who ∧ who < C.T) {k size h ix v old bb z a : Int} {own : Bool} (hok : okAct k v old) (k3 : 3 ≤ k) (hP : Pa C A bb) (hb : bb + 3 < 2305843009213693952) (hb2 : (A.n : Int) ≤ 200000000) (ho : Ol C (A.pin who).w h own z a)
  (hk : ∀ m A' τ, LvD C (A.pin who) (Ak.new (k - 2) h ix v old own) z a m A' → isA N (A'.out who) τ → Keep N.l σ τ → K (.agg #[.int .i64 m.a.oE, .int .u64 0, .int .i64 m.a.oV, .int .i64 m.a.oS]) τ) :
  s_a5 [N.env C who, .agg #[.int .i64 k, .int .i64 size, .int .u64 h, .int .i64 ix, .int .i64 v, .int .i64 old, .bool own]] K σ := by
 have hP3 := hP.pin hC hwho (by omega)
 refine c_ActW hN hC hA hwho hP.ok.w hP.n hok (fun i w A' => ∃ m, w = .ac m ∧ LvI C (A.pin who) (Ak.new (k - 2) h ix v old own) z a i m A') (fun w A' => ∃ m, w = .ac m ∧ LvD C (A.pin who) (Ak.new (k - 2) h ix v old own) z a m A') ⟨_, Wk.of3 k3, .inl ⟨rfl, rfl, rfl⟩⟩ ?_ ?_ ?_ ?_
 ·rintro i w A' i0 i1 ⟨m, rfl, h'⟩
  obtain ⟨q1, q2, q3⟩ := h'.step (who := who) hC ho hP3.ok (by omega) hP3.n hb2
  refine ⟨q1, q2.1, q2.2, ?_⟩
  rcases q3 with ⟨d, h'⟩ | ⟨d, h'⟩
  ·rw [if_neg (show ¬ ((Wk.ac m).step C who A').1 = true from by show ¬ (m.step C who A').1 = true; rw [d]; decide)]; exact ⟨_, rfl, h'⟩
  ·rw [if_pos (show ((Wk.ac m).step C who A').1 = true from d)]; exact ⟨_, rfl, h'⟩
 ·rintro w A' ⟨m, rfl, hD⟩; exact ⟨(hD.ok _ hP3.ok).w, by rw [hD.n]; exact hP3.n⟩
 ·rintro w A' ⟨m, rfl, h' | ⟨_, _, h' | ⟨_, h' | h'⟩⟩⟩
  ·have := h'.1; omega
  ·have := h'.1; omega
  ·have := h'.1; omega
  ·have := h'.1; omega
 ·rintro w A' τ ⟨m, rfl, hD⟩ hA' hK
  show K (.agg #[.int .i64 m.a.oE, .int .u64 m.a.oH, .int .i64 m.a.oV, .int .i64 m.a.oS]) τ
  rw [hD.h]
  exact hk m A' τ hD hA' hK
theorem c_ActNo (hN : N.ok) (hC : C.ok) (hA : isA N A σ) (hwho : 0 ≤ who ∧ who < C.T) {size h ix v old bb : Int} {own : Bool} (hok : okAct 2 v old) (h0 : 0 ≤ h ∧ h < 18446744073709551616) (hP : Pa C A bb) (hb : bb + 3 < 2305843009213693952) (hn : NoDrop C (A.pin who).w h own)
  (hk : ∀ m A' τ, NoD (A.pin who) m A' → isA N (A'.out who) τ → Keep N.l σ τ → K (.agg #[.int .i64 3, .int .u64 0, .int .i64 0, .int .i64 m.d.oS]) τ) :
  s_a5 [N.env C who, .agg #[.int .i64 2, .int .i64 size, .int .u64 h, .int .i64 ix, .int .i64 v, .int .i64 old, .bool own]] K σ := by
 have hP3 := hP.pin hC hwho (by omega)
 refine c_ActW hN hC hA hwho hP.ok.w hP.n hok (fun i w A' => ∃ m, w = .dr m ∧ NoI C (A.pin who) h own i m A') (fun w A' => ∃ m, w = .dr m ∧ NoD (A.pin who) m A') ⟨_, Wk.of2, .inl ⟨rfl, rfl, rfl⟩⟩ ?_ ?_ ?_ ?_
 ·rintro i w A' i0 i1 ⟨m, rfl, h'⟩
  obtain ⟨q1, q2, q3⟩ := h'.step (who := who) hC hn h0 hP3.ok (by omega) hP3.n
  refine ⟨q1, q2.1.w, q2.2.1, ?_⟩
  rcases q3 with ⟨d, h'⟩ | ⟨d, h'⟩
  ·rw [if_neg (show ¬ ((Wk.dr m).step C who A').1 = true from by show ¬ (m.step C who A').1 = true; rw [d]; decide)]; exact ⟨_, rfl, h'⟩
  ·rw [if_pos (show ((Wk.dr m).step C who A').1 = true from d)]; exact ⟨_, rfl, h'⟩
 ·rintro w A' ⟨m, rfl, hD⟩; exact ⟨(hD.ok _ hP3.ok).w, by rw [hD.n]; exact hP3.n⟩
 ·rintro w A' ⟨m, rfl, h' | h'⟩
  ·have := h'.1; omega
  ·have := h'.1; omega
 ·rintro w A' τ ⟨m, rfl, hD⟩ hA' hK
  show K (.agg #[.int .i64 m.d.oE, .int .u64 m.d.oH, .int .i64 m.d.oV, .int .i64 m.d.oS]) τ
  rw [hD.e.1, hD.e.2.1, hD.e.2.2]
  exact hk m A' τ hD hA' hK
theorem c_ActD (hN : N.ok) (hC : C.ok) (hA : isA N A σ) (hwho : 0 ≤ who ∧ who < C.T) {b : Bg} {d : Do} {size ix v old bb : Int} (hok : okAct 2 v old) (hP : Pa C A bb) (hb : bb + 3 < 2305843009213693952) (hAw : b.aw C A.w) (hd : d.ok C b (A.pin who).w) (hlv : b.lv d.j < 18446744073709551616)
  (hk : ∀ m A' τ, DnD C b d (A.pin who).w (A.pin who).s m A' → Pa C A' (bb + 63) → A'.n = A.n → isA N (A'.out who) τ → Keep N.l σ τ → K (.agg #[.int .i64 0, .int .u64 0, .int .i64 m.d.oV, .int .i64 m.d.oS]) τ) :
  s_a5 [N.env C who, .agg #[.int .i64 2, .int .i64 size, .int .u64 d.n, .int .i64 ix, .int .i64 v, .int .i64 old, .bool d.own]] K σ := by
 have hP3 := hP.pin hC hwho (by omega)
 have hAw3 : b.aw C (A.pin who).w := Bg.aw_pin hC hwho hAw
 have av := d.av hC hd ⟨_, hAw3⟩
 have en0 : (A.pin who).n = A.n := rfl
 refine c_ActW hN hC hA hwho hP.ok.w hP.n hok (fun i w A' => ∃ m, w = .dr m ∧ DrI C b d (A.pin who).w (A.pin who).s i m A' ∧ A'.ok (bb + 3 + i) ∧ A'.n = A.n ∧ A'.s = (A.pin who).s + i ∧ m.d.oH = 0) (fun w A' => ∃ m, w = .dr m ∧ DnD C b d (A.pin who).w (A.pin who).s m A' ∧ A'.ok (bb + 63) ∧ A'.n = A.n ∧ m.d.oH = 0) ⟨_, Wk.of2, ⟨rfl, rfl, .inl ⟨rfl, Int.le_refl 0, rfl, rfl, rfl⟩⟩, by simpa using hP3.ok, rfl, by omega, rfl⟩ ?_ ?_ ?_ ?_
 ·rintro i w A' i0 i1 ⟨m, rfl, h, ok, en, es, eh⟩
  have hkl := h.kle av.2.2.1
  have hnn := hP.n
  refine ⟨h.fit hC hd hAw3 ok.w hP3.ok.w (by omega), ok.w, by omega, ?_⟩
  obtain ⟨td, h'⟩ := h.step (who := who) hC hd hAw3 ok (by omega) (by omega) hlv
  have t1 := td.s
  have t2 := td.n
  have t3 := td.ok _ ok
  rcases h' with ⟨e, h'⟩ | ⟨e, h'⟩
  ·rw [if_neg (show ¬ ((Wk.dr m).step C who A').1 = true from by show ¬ (m.step C who A').1 = true; rw [e]; decide)]
   exact ⟨_, rfl, h', by rw [show bb + 3 + (i + 1) = bb + 3 + i + 1 by omega]; exact t3, t2.trans en, by show (m.step C who A').2.2.s = _; omega, Dm.oH0 eh⟩
  ·rw [if_pos (show ((Wk.dr m).step C who A').1 = true from e)]
   exact ⟨_, rfl, h', ok_mono t3 (by omega), t2.trans en, Dm.oH0 eh⟩
 ·rintro w A' ⟨m, rfl, h1, h2, h3, _⟩; exact ⟨h2.w, by rw [h3]; exact hP.n⟩
 ·rintro w A' ⟨m, rfl, h, _⟩; have := h.kle av.2.2.1; omega
 ·rintro w A' τ ⟨m, rfl, hD, ok, en, eh⟩ hA' hK
  show K (.agg #[.int .i64 m.d.oE, .int .u64 m.d.oH, .int .i64 m.d.oV, .int .i64 m.d.oS]) τ
  rw [hD.e, eh]
  exact hk m A' τ hD (Bg.aw.pa hC hD.aw ok (by rw [en]; exact hP.n)) en hA' hK
end Go.Fl
namespace Go.Fl
open Go
set_option linter.unusedVariables false
set_option linter.unusedSimpArgs false
variable {N : Nm} {A B : Ar} {σ : Mem} {K : Value → Mem → Prop} {C : Cf} {who : Int}
def updO (f : Int → Option Do) (a : Int) (v : Option Do) : Int → Option Do := fun i => if i = a then v else f i
theorem updO_same {f : Int → Option Do} {a : Int} {v : Option Do} : updO f a v a = v := if_pos rfl
theorem updO_ne {f : Int → Option Do} {a i : Int} {v : Option Do} (h : i ≠ a) : updO f a v i = f i := if_neg h
def prt (ob : Int → Option Do) (j s : Int) : Int := match ob s with
 | some d => if d.j = j then d.rm else 0
 | none => 0
theorem prt_nn {ob : Int → Option Do} {j s : Int} : 0 ≤ prt ob j s := by
 unfold prt
 split
 ·rename_i d _; split
  ·have := d.rm0; omega
  ·exact Int.le_refl _
 ·exact Int.le_refl _
theorem prt_upd {ob : Int → Option Do} {j s : Int} {v : Option Do} : prt (updO ob s v) j = upd (prt ob j) s (match v with | some d => if d.j = j then d.rm else 0 | none => 0) := by
 funext t
 unfold prt upd updO
 by_cases e : t = s
 ·rw [if_pos e, if_pos e]
 ·rw [if_neg e, if_neg e]
structure Wo (C : Cf) (b : Bg) (ob : Int → Option Do) (M : Int) (w : Int → Int) : Prop where
 aw : b.aw C w
 lv : b.lvM C M
 gen : ∀ s, 0 ≤ s → s < C.S → 1 ≤ slG (w (C.slot s)) ∧ slG (w (C.slot s)) ≤ C.G
 no : ∀ s, 0 ≤ s → s < C.S → ob s = none → slS (w (C.slot s)) = 0 ∨ slS (w (C.slot s)) = 3
 ok : ∀ s d, 0 ≤ s → s < C.S → ob s = some d → d.ok C b w ∧ d.s = s ∧ slS d.ws = 1 ∧ ∀ x, 0 ≤ x → x < d.z → ceF (w (d.a C + 1 + x)) = false
 ne : ∀ s t d e, 0 ≤ s → s < C.S → 0 ≤ t → t < C.S → ob s = some d → ob t = some e → s ≠ t → d.j ≠ e.j ∨ d.i + d.rm ≤ e.i ∨ e.i + e.rm ≤ d.i
 sm : ∀ j, 0 ≤ j → j < C.C → sumN (prt ob j) C.S.toNat ≤ b.lv j
def SameO (C : Cf) (ob : Int → Option Do) (s : Int) (w w' : Int → Int) : Prop := ∀ t e, 0 ≤ t → t < C.S → t ≠ s → ob t = some e → ∀ x, 0 ≤ x → x < e.z → w' (e.a C + 1 + x) = w (e.a C + 1 + x)
section
variable {b : Bg} {ob : Int → Option Do} {M : Int} {w w' : Int → Int}
theorem Wo.at' (hC : C.ok) (h : Wo C b ob M w) {s : Int} {d : Do} (s0 : 0 ≤ s) (s1 : s < C.S) (e : ob s = some d) {x : Int} (x0 : 0 ≤ x) (x1 : x ≤ d.z) :
  d.a C + x = C.base d.j + (d.i + x) ∧ (0 ≤ d.j ∧ d.j < C.C) ∧ 0 ≤ d.i + x ∧ d.i + x < b.u d.j ∧ d.i + x < C.W := by
 have o := (h.ok s d s0 s1 e).1
 have av := d.av hC o ⟨_, h.aw⟩
 have := o.i
 refine ⟨by unfold Do.a; omega, o.j, by omega, by omega, by omega⟩
theorem Wo.keep (hC : C.ok) (h : Wo C b ob M w) (haw : b.aw C w') (hs : ∀ s, 0 ≤ s → s < C.S → w' (C.slot s) = w (C.slot s))
  (hw : ∀ s d, 0 ≤ s → s < C.S → ob s = some d → ∀ x, 0 ≤ x → x ≤ d.z → w' (d.a C + x) = w (d.a C + x)) : Wo C b ob M w' := by
 refine ⟨haw, h.lv, fun s s0 s1 => by rw [hs s s0 s1]; exact h.gen s s0 s1, fun s s0 s1 e => by rw [hs s s0 s1]; exact h.no s s0 s1 e, fun s d s0 s1 e => ?_, h.ne, h.sm⟩
 obtain ⟨o, e1, e2, e3⟩ := h.ok s d s0 s1 e
 have av := d.av hC o ⟨_, h.aw⟩
 refine ⟨o.keep o.sF (by rw [e1]; exact hs s s0 s1) (by have := hw s d s0 s1 e 0 (by omega) (by omega); rwa [Int.add_zero] at this) (Int.le_refl _) o.lv, e1, e2, fun x x0 x1 => ?_⟩
 rw [show d.a C + 1 + x = d.a C + (1 + x) by omega, hw s d s0 s1 e (1 + x) (by omega) (by omega), show d.a C + (1 + x) = d.a C + 1 + x by omega]
 exact e3 x x0 x1
theorem Wo.same_of (hC : C.ok) (h : Wo C b ob M w) (hw : ∀ j i, 0 ≤ j → j < C.C → 0 ≤ i → i < b.u j → i < C.W → w' (C.base j + i) = w (C.base j + i)) :
  ∀ s d, 0 ≤ s → s < C.S → ob s = some d → ∀ x, 0 ≤ x → x ≤ d.z → w' (d.a C + x) = w (d.a C + x) := by
 intro s d s0 s1 e x x0 x1
 obtain ⟨q0, q1, q2, q3, q4⟩ := h.at' hC s0 s1 e x0 x1
 rw [q0]; exact hw _ _ q1.1 q1.2 q2 q3 q4
theorem Wo.apart (hC : C.ok) (h : Wo C b ob M w) {s t : Int} {d e : Do} (s0 : 0 ≤ s) (s1 : s < C.S) (t0 : 0 ≤ t) (t1 : t < C.S) (hd : ob s = some d) (he : ob t = some e) (hst : s ≠ t) {x y : Int} (x0 : 0 ≤ x) (x1 : x ≤ d.z) (y0 : 0 ≤ y) (y1 : y ≤ e.z) : d.a C + x ≠ e.a C + y := by
 obtain ⟨q0, q1, q2, q3, q4⟩ := h.at' hC s0 s1 hd x0 x1
 obtain ⟨r0, r1, r2, r3, r4⟩ := h.at' hC t0 t1 he y0 y1
 intro q
 rw [q0, r0] at q
 obtain ⟨p1, p2⟩ := base_inj hC q1.1 q1.2 q2 q4 r1.1 r1.2 r2 r4 q
 have z1 := (h.ok s d s0 s1 hd).1.z
 have z2 := (h.ok t e t0 t1 he).1.z
 rcases h.ne s t d e s0 s1 t0 t1 hd he hst with n | n | n
 ·exact n p1
 ·unfold Do.rm at n; omega
 ·unfold Do.rm at n; omega
theorem Wo.pin (hC : C.ok) (hwho : 0 ≤ who ∧ who < C.T) {v : Int} (h : Wo C b ob M w) : Wo C b ob M (upd w (6 + who) v) := by
 have hT := hC.T
 refine h.keep hC (Bg.aw_pin hC hwho h.aw) (fun s s0 s1 => upd_ne _ _ (by unfold Cf.slot; omega)) fun s d s0 s1 e x x0 x1 => upd_ne _ _ ?_
 obtain ⟨q0, q1, q2, q3, q4⟩ := h.at' hC s0 s1 e x0 x1
 have := base_ge hC q1.1 q1.2 q2
 have := hC.S; have := hC.C
 omega
theorem Wo.make (hC : C.ok) (h : Wo C b ob M w) (hM : M ≤ 900000000) {z s j : Int} {own : Bool} {b' : Bg} {F : List Int} (hF : b.F = s :: F) (hc : 0 ≤ classOf z)
  (hg : Got C b F (classOf z) j b') (haw : (b'.count j (roomOf (classOf z))).aw C w') (h1 : w' (C.slot s) = putSlot 1 (C.base j + b.u j) (slG (w (C.slot s))) 0) (h2 : w' (C.base j + b.u j) = putHead 2 z s (slG (w (C.slot s))) own)
  (h3 : ∀ x, 1 ≤ x → x < roomOf (classOf z) → w' (C.base j + (b.u j + x)) = 0) (fw : Fw C b True w w') :
  ∃ d, Wo C (b'.count j (roomOf (classOf z))) (updO ob s (some d)) (M + 17) w' ∧ (0 ≤ s ∧ s < C.S) ∧ ob s = none ∧ d.n = putHandle s (slG (w (C.slot s))) ∧ d.z = z ∧ d.own = own ∧ d.s = s ∧ SameO C ob s w w' ∧ ∀ x, 0 ≤ x → x < z → w' (d.a C + 1 + x) = 0 := by
 have hm := h.aw.fre.c.mem s (by rw [hF]; simp)
 have hnd := h.aw.fre.nd
 rw [hF] at hnd
 have hsF := (List.nodup_cons.1 hnd).1
 have hge := h.gen s hm.1 hm.2
 have hG := hC.G
 obtain ⟨c1, c2, c3⟩ := hg.cnt hC (n := roomOf (classOf z))
 obtain ⟨d1, d2, d3, d4⟩ := hg.bd hC h.aw.alo hc (class_bd z).2
 have hlv0 := h.lv.lv j d1.1 d1.2
 have hS := hC.S
 have hr := room_bd hc (class_bd z).2
 have hzr := class_room' hc
 have hnew := hg.do (own := own) hC hc hm hsF (by omega : 1 ≤ slG (w (C.slot s)) ∧ slG (w (C.slot s)) ≤ 65535) ⟨_, h.aw.alo⟩ hlv0.1 h1 h2
 obtain ⟨y0, y1, y2, y3, y4⟩ := hd_handle (s := s) (g := slG (w (C.slot s))) (by omega) (by omega)
 have obs : ob s = none := by
  cases e : ob s with
  | none => rfl
  | some d => exact absurd (by rw [hF, (h.ok s d hm.1 hm.2 e).2.1]; simp) (h.ok s d hm.1 hm.2 e).1.sF
 have hb1 := base_of hC d1.1 d1.2 d2.1 (by omega)
 have hb2 := base_ge hC d1.1 d1.2 d2.1
 have hl := len_bd hC
 generalize hd : Do.mk' C b s (slG (w (C.slot s))) z own j = d at *
 have ds : d.s = s := by subst hd; exact y2
 have dn : d.n = putHandle s (slG (w (C.slot s))) := by subst hd; rfl
 have dj : d.j = j := by subst hd; rfl
 have di : d.i = b.u j := by subst hd; rfl
 have dz : d.z = z := by subst hd; rfl
 have dow : d.own = own := by subst hd; rfl
 have dws : d.ws = putSlot 1 (C.base j + b.u j) (slG (w (C.slot s))) 0 := by subst hd; rfl
 have dr : d.rm = roomOf (classOf z) := by subst hd; rfl
 have da : d.a C = C.base j + b.u j := by unfold Do.a; rw [dj, di]
 have wS : ∀ t, 0 ≤ t → t < C.S → t ≠ s → w' (C.slot t) = w (C.slot t) := fun t t0 t1 ht => fw.slot t t0 t1 fun _ F' e => by rw [hF] at e; cases e; exact ht rfl
 have wG : slG (w' (C.slot s)) = slG (w (C.slot s)) := by rw [h1]; exact (sl_put (by decide) (by omega) (by omega) (by decide)).2.2.1
 have wW := h.same_of hC fw.word
 have z0 : ∀ x, 0 ≤ x → x < z → w' (d.a C + 1 + x) = 0 := fun x x0 x1 => by
  have := h3 (1 + x) (by omega) (by omega)
  rw [show d.a C + 1 + x = C.base j + (b.u j + (1 + x)) by omega]; exact this
 refine ⟨d, ⟨haw, ?_, fun t t0 t1 => ?_, fun t t0 t1 e => ?_, fun t e t0 t1 he => ?_, ?_, fun l l0 l1 => ?_⟩, hm, obs, dn, dz, dow, ds, ?_, z0⟩
 ·exact h.lv.count hC hg hc (class_bd z).2
 ·by_cases e : t = s
  ·subst e; rw [wG]; exact hge
  ·rw [wS t t0 t1 e]; exact h.gen t t0 t1
 ·by_cases q : t = s
  ·subst q; rw [updO_same] at e; cases e
  ·rw [updO_ne q] at e; rw [wS t t0 t1 q]; exact h.no t t0 t1 e
 ·by_cases q : t = s
  ·subst q; rw [updO_same] at he; cases he
   refine ⟨hnew, ds, by rw [dws]; exact (sl_put (by decide) (by omega) (by omega) (by decide)).1, fun x x0 x1 => ?_⟩
   rw [z0 x x0 (by omega)]; decide
  ·rw [updO_ne q] at he
   obtain ⟨o, e1, e2, e3⟩ := h.ok t e t0 t1 he
   have av := e.av hC o ⟨_, h.aw⟩
   have oj := o.j
   have eF : e.s ∉ F := by have := o.sF; rw [hF] at this; simp only [List.mem_cons, not_or] at this; exact this.2
   refine ⟨o.keep (by rw [c1]; exact eF) (by rw [e1]; exact wS t t0 t1 q) (by have := wW t e t0 t1 he 0 (by omega) (by omega); rwa [Int.add_zero] at this) ?_ ?_, e1, e2, fun x x0 x1 => ?_⟩
   ·rw [c3]; unfold upd; split
    ·rename_i q'; rw [q']; omega
    ·exact Int.le_refl _
   ·have olv := o.lv
    rw [c2]; unfold upd; split
    ·rename_i q'; rw [q'] at olv; omega
    ·exact olv
   ·rw [show e.a C + 1 + x = e.a C + (1 + x) by omega, wW t e t0 t1 he (1 + x) (by omega) (by omega), show e.a C + (1 + x) = e.a C + 1 + x by omega]
    exact e3 x x0 x1
 ·intro t u e f t0 t1 u0 u1 he hf htu
  by_cases q : t = s
  ·subst q
   rw [updO_same] at he; cases he
   rw [updO_ne (Ne.symm htu)] at hf
   have of := (h.ok u f u0 u1 hf).1
   by_cases q' : f.j = j
   ·have := of.i.2; rw [q'] at this; refine .inr (.inr ?_); unfold Do.rm; omega
   ·exact .inl fun x => q' (by rw [← x, dj])
  ·rw [updO_ne q] at he
   by_cases q' : u = s
   ·subst q'
    rw [updO_same] at hf; cases hf
    have oe := (h.ok t e t0 t1 he).1
    by_cases q'' : e.j = j
    ·have := oe.i.2; rw [q''] at this; refine .inr (.inl ?_); unfold Do.rm; omega
    ·exact .inl fun x => q'' (by rw [x, dj])
   ·rw [updO_ne q'] at hf
    exact h.ne t u e f t0 t1 u0 u1 he hf htu
 ·rw [prt_upd, sumN_upd (by omega) (by omega)]
  have e0 : prt ob l s = 0 := by unfold prt; rw [obs]
  have := h.sm l l0 l1
  rw [e0, c2]
  dsimp only
  rw [dj, dr]
  by_cases q : j = l
  ·subst q; rw [upd_same, if_pos rfl]; omega
  ·rw [upd_ne _ _ (fun e => q e.symm), if_neg q]; omega
 ·intro t e t0 t1 ts he x x0 x1
  rw [show e.a C + 1 + x = e.a C + (1 + x) by omega]
  exact wW t e t0 t1 he (1 + x) (by omega) (by omega)
theorem Wo.drop (hC : C.ok) (h : Wo C b ob M w) {s : Int} {d : Do} (s0 : 0 ≤ s) (s1 : s < C.S) (hs : ob s = some d) (fr : d.fr C w w') (sl : w' (C.slot d.s) = d.nx C)
  (aw : Bg.aw { b.less d.j (roomOf (classOf d.z)) with F := if C.G ≤ d.ge then b.F else d.s :: b.F } C w') :
  Wo C { b.less d.j (roomOf (classOf d.z)) with F := if C.G ≤ d.ge then b.F else d.s :: b.F } (updO ob s none) M w' ∧ SameO C ob s w w' := by
 obtain ⟨o, e1, e2, e3⟩ := h.ok s d s0 s1 hs
 have hge := h.gen s s0 s1
 have hG := hC.G
 have ege : slG (w (C.slot s)) = d.ge := by rw [← e1, o.ws, o.sg]
 rw [ege] at hge
 have av := d.av hC o ⟨_, h.aw⟩
 have hT := hC.T
 have hS := hC.S
 have hCC := hC.C
 have wS : ∀ t, 0 ≤ t → t < C.S → t ≠ s → w' (C.slot t) = w (C.slot t) := fun t t0 t1 ht => by
  have hb := (h.at' hC s0 s1 hs (x := 0) (by omega) (by omega))
  have hb2 := base_ge hC hb.2.1.1 hb.2.1.2 hb.2.2.1
  have hj := o.j
  refine fr _ (by rw [e1]; unfold Cf.slot; omega) (by unfold Cf.slot; omega) (by rw [e1]; unfold Cf.slot; omega) (by unfold Cf.slot Cf.chunk; omega) (by unfold Cf.slot; omega)
 have wW : ∀ t e, 0 ≤ t → t < C.S → t ≠ s → ob t = some e → ∀ x, 0 ≤ x → x ≤ e.z → w' (e.a C + x) = w (e.a C + x) := fun t e t0 t1 ts he x x0 x1 => by
  have hb := h.at' hC t0 t1 he x0 x1
  have hb2 := base_ge hC hb.2.1.1 hb.2.1.2 hb.2.2.1
  have hj := o.j
  refine fr _ (by rw [e1, hb.1]; unfold Cf.slot; omega) (by rw [hb.1]; omega) (by rw [e1, hb.1]; unfold Cf.slot; omega) (by rw [hb.1]; unfold Cf.chunk; omega) fun q => ?_
  exact h.apart hC t0 t1 s0 s1 he hs ts (y := e.a C + x - d.a C) x0 x1 (by omega) (by omega) (by omega)
 have wG : slS (w' (C.slot s)) = (if C.G ≤ d.ge then 3 else 0) ∧ slG (w' (C.slot s)) = (if C.G ≤ d.ge then d.ge else d.ge + 1) := by
  rw [← e1, sl]; unfold Do.nx
  split
  ·exact ⟨(sl_put (by decide) (by decide) (by omega) (by decide)).1, (sl_put (by decide) (by decide) (by omega) (by decide)).2.2.1⟩
  ·exact ⟨(sl_put (by decide) (by decide) (by omega) (by decide)).1, (sl_put (by decide) (by decide) (by omega) (by decide)).2.2.1⟩
 have sml : ∀ j, sumN (prt (updO ob s none) j) C.S.toNat = sumN (prt ob j) C.S.toNat - (if d.j = j then d.rm else 0) := fun j => by
  rw [prt_upd, sumN_upd s0 (by omega)]
  have : prt ob j s = if d.j = j then d.rm else 0 := by unfold prt; rw [hs]
  rw [this]; dsimp only; omega
 have lK : ∀ t e, updO ob s none t = some e → t ≠ s ∧ ob t = some e := fun t e he => by
  by_cases q : t = s
  ·subst q; rw [updO_same] at he; cases he
  ·rw [updO_ne q] at he; exact ⟨q, he⟩
 have oj := o.j
 have smk := sumN_le (f := prt ob d.j) (n := C.S.toNat) (fun _ => prt_nn) s0 (by omega)
 have smj := h.sm _ oj.1 oj.2
 have pk : prt ob d.j s = d.rm := by unfold prt; rw [hs]; simp
 rw [pk] at smk
 have rmk := d.rm0
 refine ⟨⟨aw, ⟨fun j j0 j1 => ?_⟩, fun t t0 t1 => ?_, fun t t0 t1 he => ?_, fun t e t0 t1 he => ?_, fun t u e f t0 t1 u0 u1 he hf htu => ?_, fun j j0 j1 => ?_⟩, fun t e t0 t1 ts he x x0 x1 => ?_⟩
 ·have := h.lv.lv j j0 j1
  show 0 ≤ upd b.lv d.j (b.lv d.j - d.rm) j ∧ upd b.lv d.j (b.lv d.j - d.rm) j ≤ _
  unfold upd; split
  ·rename_i q; rw [q] at this; omega
  ·omega
 ·by_cases e : t = s
  ·subst e; rw [wG.2]; split <;> omega
  ·rw [wS t t0 t1 e]; exact h.gen t t0 t1
 ·by_cases e : t = s
  ·subst e; rw [wG.1]; split
   ·exact .inr rfl
   ·exact .inl rfl
  ·rw [updO_ne e] at he; rw [wS t t0 t1 e]; exact h.no t t0 t1 he
 ·obtain ⟨ts, he'⟩ := lK t e he
  obtain ⟨o', f1, f2, f3⟩ := h.ok t e t0 t1 he'
  have av' := e.av hC o' ⟨_, h.aw⟩
  refine ⟨o'.keep ?_ (by rw [f1]; exact wS t t0 t1 ts) (by have := wW t e t0 t1 ts he' 0 (by omega) (by omega); rwa [Int.add_zero] at this) (Int.le_refl _) ?_, f1, f2, fun x x0 x1 => ?_⟩
  ·have : e.s ∉ d.s :: b.F := by
    simp only [List.mem_cons, not_or]; exact ⟨by rw [f1, e1]; exact ts, o'.sF⟩
   show e.s ∉ (if C.G ≤ d.ge then b.F else d.s :: b.F)
   split
   ·exact o'.sF
   ·exact this
  ·show _ ≤ upd b.lv d.j (b.lv d.j - d.rm) e.j
   unfold upd; split
   ·rename_i q
    have s1' := sumN_le (f := prt (updO ob s none) d.j) (n := C.S.toNat) (fun _ => prt_nn) t0 (by omega)
    rw [sml, if_pos rfl] at s1'
    have : prt (updO ob s none) d.j t = e.rm := by unfold prt; rw [he]; simp [q]
    rw [this] at s1'
    unfold Do.rm at *
    omega
   ·exact o'.lv
  ·rw [show e.a C + 1 + x = e.a C + (1 + x) by omega, wW t e t0 t1 ts he' (1 + x) (by omega) (by omega), show e.a C + (1 + x) = e.a C + 1 + x by omega]
   exact f3 x x0 x1
 ·exact h.ne t u e f t0 t1 u0 u1 (lK t e he).2 (lK u f hf).2 htu
 ·show _ ≤ upd b.lv d.j (b.lv d.j - d.rm) j
  rw [sml]
  have := h.sm j j0 j1
  by_cases q : d.j = j
  ·subst q; rw [upd_same, if_pos rfl]; omega
  ·rw [upd_ne _ _ fun e => q e.symm, if_neg q]; omega
 ·rw [show e.a C + 1 + x = e.a C + (1 + x) by omega]
  exact wW t e t0 t1 ts he (1 + x) (by omega) (by omega)
theorem Wo.lay (hC : C.ok) (h : Wo C b ob M w) {s : Int} {d : Do} (s0 : 0 ≤ s) (s1 : s < C.S) (hs : ob s = some d) {x v : Int} (x0 : 0 ≤ x) (x1 : x < d.z) (hv : 0 ≤ v ∧ v ≤ 1099511627775) :
  Wo C b ob M (upd w (d.a C + 1 + x) (putCell v false 0)) ∧ SameO C ob s w (upd w (d.a C + 1 + x) (putCell v false 0)) := by
 obtain ⟨q0, q1, q2, q3, q4⟩ := h.at' hC s0 s1 hs (x := 1 + x) (by omega) (by omega)
 have ea : d.a C + 1 + x = C.base d.j + (d.i + (1 + x)) := by omega
 have hb := base_ge hC q1.1 q1.2 q2
 have hT := hC.T
 have hS := hC.S
 have wS : ∀ t, 0 ≤ t → t < C.S → upd w (d.a C + 1 + x) (putCell v false 0) (C.slot t) = w (C.slot t) := fun t t0 t1 => upd_ne _ _ (by rw [ea]; unfold Cf.slot; have := hC.C; omega)
 have wW : ∀ t e, 0 ≤ t → t < C.S → t ≠ s → ob t = some e → ∀ y, 0 ≤ y → y ≤ e.z → upd w (d.a C + 1 + x) (putCell v false 0) (e.a C + y) = w (e.a C + y) := fun t e t0 t1 ts he y y0 y1 => by
  refine upd_ne _ _ fun q => h.apart hC t0 t1 s0 s1 he hs ts (y := 1 + x) y0 y1 (by omega) (by omega) (by omega)
 refine ⟨⟨by rw [ea]; exact Aw.word hC h.aw q1.1 q1.2 q2 q3 q4, h.lv, fun t t0 t1 => by rw [wS t t0 t1]; exact h.gen t t0 t1, fun t t0 t1 e => by rw [wS t t0 t1]; exact h.no t t0 t1 e, fun t e t0 t1 he => ?_, h.ne, h.sm⟩, fun t e t0 t1 ts he y y0 y1 => ?_⟩
 ·obtain ⟨o, f1, f2, f3⟩ := h.ok t e t0 t1 he
  have av := e.av hC o ⟨_, h.aw⟩
  by_cases q : t = s
  ·subst q; rw [hs] at he; cases he
   refine ⟨o.keep o.sF (by rw [f1]; exact wS t t0 t1) (upd_ne _ _ (by omega)) (Int.le_refl _) o.lv, f1, f2, fun y y0 y1 => ?_⟩
   by_cases e : y = x
   ·subst e; rw [upd_same]; exact (ce_put (f := false) (n := 0) hv (by decide)).2.1
   ·rw [upd_ne _ _ (by omega)]; exact f3 y y0 y1
  ·refine ⟨o.keep o.sF (by rw [f1]; exact wS t t0 t1) (by have := wW t e t0 t1 q he 0 (by omega) (by omega); rwa [Int.add_zero] at this) (Int.le_refl _) o.lv, f1, f2, fun y y0 y1 => ?_⟩
   rw [show e.a C + 1 + y = e.a C + (1 + y) by omega, wW t e t0 t1 q he (1 + y) (by omega) (by omega), show e.a C + (1 + y) = e.a C + 1 + y by omega]
   exact f3 y y0 y1
 ·rw [show e.a C + 1 + y = e.a C + (1 + y) by omega]
  exact wW t e t0 t1 ts he (1 + y) (by omega) (by omega)
def Hit (C : Cf) (ob : Int → Option Do) (n : Int) (own : Bool) (s : Int) (d : Do) : Prop := (0 ≤ s ∧ s < C.S) ∧ ob s = some d ∧ d.n = n ∧ d.own = own
theorem Wo.miss (hC : C.ok) (h : Wo C b ob M w) {n : Int} {own : Bool} (n0 : 0 ≤ n ∧ n < 18446744073709551616) (hm : ∀ s d, ¬ Hit C ob n own s d) : NoDrop C w n own := by
 by_cases h1 : hdOk n = true
 ·have hb := hdSl_bd n0.1
  by_cases h2 : hdSl n < C.S
  ·refine .inr ⟨⟨h1, h2⟩, ?_⟩
   cases e : ob (hdSl n) with
   | none =>
    refine .inl fun hl => ?_
    have h5 := h.no _ hb.1.1 h2 e
    have h6 := hl.1
    omega
   | some d =>
    obtain ⟨o, e1, e2, e3⟩ := h.ok _ d hb.1.1 h2 e
    by_cases g : d.ge = hdGe n
    ·have dn : d.n = n := by
      have q1 := o.hok
      have q2 : hdSl d.n = hdSl n := e1
      have q3 : hdGe d.n = hdGe n := g
      have q4 := o.n
      unfold hdSl at q2
      unfold hdGe at q3
      rw [q1, h1] at q2 q3
      simp only [if_true] at q2 q3
      omega
     have av := d.av hC o ⟨_, h.aw⟩
     have ews : w (C.slot (hdSl n)) = d.ws := by rw [← e1]; exact o.ws
     refine .inr ⟨⟨by rw [ews, e2]; exact .inl rfl, by rw [ews, o.sg]; exact g⟩, by rw [ews, o.sa]; omega, ?_⟩
     rw [ews, o.sa, o.hd.2]
     exact fun q => hm (hdSl n) d ⟨⟨hb.1.1, h2⟩, e, dn, q⟩
    ·refine .inl fun hl => g ?_
     have ews : w (C.slot (hdSl n)) = d.ws := by rw [← e1]; exact o.ws
     have := hl.2
     rw [ews, o.sg] at this; exact this
  ·exact .inl (.inr (by omega))
 ·exact .inl (.inl (by simpa using h1))
theorem Wo.ol (hC : C.ok) (h : Wo C b ob M w) {n s : Int} {own : Bool} {d : Do} (hh : Hit C ob n own s d) : Ol C w n own d.z (d.a C) := by
 obtain ⟨⟨s0, s1⟩, hs, rfl, rfl⟩ := hh
 obtain ⟨o, e1, e2, e3⟩ := h.ok s d s0 s1 hs
 have av := d.av hC o ⟨_, h.aw⟩
 have es : hdSl d.n = d.s := rfl
 refine ⟨o.n, o.hok, by rw [es]; exact o.s.2, by rw [es, o.ws]; exact e2, by rw [es, o.ws]; exact o.sa, by rw [es, o.ws]; exact o.sg, ⟨o.hd.2, o.hd.1⟩, ⟨av.1.2.2.2, av.1.2.1⟩, av.2.1, e3⟩
theorem Frsh.wo (hC : C.ok) (h : Frsh N C A) : Wo C (Bg.fr C) (fun _ => none) 0 A.w := by
 have hw0 : ∀ s, 0 ≤ s → s < C.S → A.w (C.slot s) = putSlot 0 0 1 0 := by
  intro s s0 s1
  rw [h.w]
  have hT := hC.T
  unfold Cf.w0 Cf.fr
  rw [if_neg (by unfold Cf.slot; omega), if_neg (by unfold Cf.slot; omega), if_pos (by unfold Cf.slot; omega), if_pos (by unfold Cf.slot; omega)]
 have hG := hC.G
 refine ⟨h.aw hC, fr_lv, fun s s0 s1 => ?_, fun s s0 s1 _ => ?_, fun s d _ _ e => (by cases e), fun s t d e _ _ _ _ hd => (by cases hd), fun j j0 j1 => ?_⟩
 ·rw [hw0 s s0 s1, (sl_put (by decide) (by decide) (by decide) (by decide)).2.2.1]; omega
 ·rw [hw0 s s0 s1, (sl_put (by decide) (by decide) (by decide) (by decide)).1]; exact .inl rfl
 ·have : ∀ n, sumN (prt (fun _ => none) j) n = 0 := by
   intro n
   induction n with
   | zero => rfl
   | succ n ih => show sumN _ n + prt (fun _ => none) j n = 0; rw [ih]; rfl
  rw [this]; exact Int.le_refl _
end
end Go.Fl
namespace Go.Fl
open Go
set_option linter.unusedVariables false
set_option linter.unusedSimpArgs false
variable {N : Nm} {A B : Ar} {σ : Mem} {K : Value → Mem → Prop} {C : Cf} {who : Int}
theorem Ar.ok.pin_s {b : Int} (h : A.ok b) (hb : b < 9000000000000000000) : (A.pin who).s = A.s + 3 := by
 have h1 := (h.by (who := who)).load (a := 0) (by omega)
 have h2 := (h1.by (who := who)).store (a := 6 + who) (by omega) (wrap_in (A.w 0 + 1))
 have e1 : ((A.by who).load 0).s = A.s + 1 := (h.by (who := who)).s1 (by omega)
 have e2 : ((((A.by who).load 0).by who).store (6 + who) (IntKind.u64.wrap (A.w 0 + 1))).s = ((A.by who).load 0).s + 1 := (h1.by (who := who)).s1 (by omega)
 have e3 : (A.pin who).s = ((((A.by who).load 0).by who).store (6 + who) (IntKind.u64.wrap (A.w 0 + 1))).s + 1 := (h2.by (who := who)).s1 (by omega)
 omega
theorem Ar.ok.out_s {b : Int} (h : A.ok b) (hb : b < 9000000000000000000) : (A.out who).s = A.s + 1 := (h.by (who := who)).s1 (by omega)
def AlR (C : Cf) (b : Bg) (ob : Int → Option Do) (w : Int → Int) (size : Int) (own : Bool) (E H : Int) (b' : Bg) (ob' : Int → Option Do) (w' : Int → Int) : Prop :=
 (E ≠ 0 ∧ H = 0 ∧ (classOf size < 0 ∧ E = 5 ∨ 0 ≤ classOf size ∧ (E = 6 ∧ b.nx = C.C ∨ E = 7 ∧ b.F = [])) ∧ ob' = ob ∧ b' = b ∧ SameO C ob (-1) w w') ∨
 (E = 0 ∧ 0 ≤ classOf size ∧ ∃ s F d, (0 ≤ s ∧ s < C.S) ∧ ob s = none ∧ b.F = s :: F ∧ b'.F = F ∧ b'.nx ≤ b.nx + 1 ∧ ob' = updO ob s (some d) ∧ (65536 ≤ H ∧ d.n = H) ∧ d.z = size ∧ d.own = own ∧ d.s = s ∧ SameO C ob s w w' ∧ ∀ x, 0 ≤ x → x < size → w' (d.a C + 1 + x) = 0)
theorem SameO.pin (hC : C.ok) (hwho : 0 ≤ who ∧ who < C.T) {b : Bg} {ob : Int → Option Do} {M s v : Int} {w : Int → Int} (h : Wo C b ob M w) : SameO C ob s w (upd w (6 + who) v) ∧ SameO C ob s (upd w (6 + who) v) w := by
 have key : ∀ t e, 0 ≤ t → t < C.S → ob t = some e → ∀ x, 0 ≤ x → x < e.z → upd w (6 + who) v (e.a C + 1 + x) = w (e.a C + 1 + x) := fun t e t0 t1 he x x0 x1 => by
  refine upd_ne _ _ ?_
  obtain ⟨q0, q1, q2, q3, q4⟩ := h.at' hC t0 t1 he (x := 1 + x) (by omega) (by omega)
  have := base_ge hC q1.1 q1.2 q2
  have := hC.S; have := hC.C
  omega
 exact ⟨fun t e t0 t1 _ he x x0 x1 => key t e t0 t1 he x x0 x1, fun t e t0 t1 _ he x x0 x1 => (key t e t0 t1 he x x0 x1).symm⟩
theorem SameO.trans {ob : Int → Option Do} {s : Int} {w w' w'' : Int → Int} (h : SameO C ob s w w') (h' : SameO C ob s w' w'') : SameO C ob s w w'' :=
 fun t e t0 t1 ts he x x0 x1 => (h' t e t0 t1 ts he x x0 x1).trans (h t e t0 t1 ts he x x0 x1)
theorem SameO.all {ob : Int → Option Do} {s : Int} {w w' : Int → Int} (h : SameO C ob (-1) w w') : SameO C ob s w w' := fun t e t0 t1 _ he x x0 x1 => h t e t0 t1 (by omega) he x x0 x1
theorem SameO.mono {ob ob' : Int → Option Do} {s : Int} {w w' : Int → Int} (h : SameO C ob s w w') (ho : ∀ t, t ≠ s → ob' t = ob t) : SameO C ob' s w w' := fun t e t0 t1 ts he x x0 x1 => h t e t0 t1 ts (by rw [← ho t ts]; exact he) x x0 x1
theorem Wo.pin_at (hC : C.ok) (hwho : 0 ≤ who ∧ who < C.T) {b : Bg} {ob : Int → Option Do} {M s v x : Int} {d : Do} {w : Int → Int} (h : Wo C b ob M w) (s0 : 0 ≤ s) (s1 : s < C.S) (hs : ob s = some d) (x0 : 0 ≤ x) (x1 : x ≤ d.z) : upd w (6 + who) v (d.a C + x) = w (d.a C + x) := by
 refine upd_ne _ _ ?_
 obtain ⟨q0, q1, q2, q3, q4⟩ := h.at' hC s0 s1 hs x0 x1
 have := base_ge hC q1.1 q1.2 q2
 have := hC.S; have := hC.C
 omega
theorem c_ActE (hN : N.ok) (hC : C.ok) (hA : isA N A σ) (hwho : 0 ≤ who ∧ who < C.T) {size h ix v old bb : Int} {own : Bool} (hok : okAct 1 v old) (hP : Pa C A bb) (hb : bb + 3 < 2305843009213693952) (hcl : classOf size < 0)
  (hk : ∀ τ, isA N ((A.pin who).out who) τ → Keep N.l σ τ → K (.agg #[.int .i64 5, .int .u64 0, .int .i64 0, .int .i64 (A.pin who).s]) τ) :
  s_a5 [N.env C who, .agg #[.int .i64 1, .int .i64 size, .int .u64 h, .int .i64 ix, .int .i64 v, .int .i64 old, .bool own]] K σ := by
 have hP3 := hP.pin hC hwho (by omega)
 have hS := hC.S
 have st : (Am.new size own).step C who (A.pin who) = (true, { Am.new size own with a := (Am.new size own).out (A.pin who) 5 }, A.pin who) := by
  unfold Am.step
  rw [if_pos (show (Am.new size own).a.pc = 0 from rfl), if_pos (show classOf (Am.new size own).a.size < 0 from hcl)]
 refine c_ActW hN hC hA hwho hP.ok.w hP.n hok (fun i k A' => i = 0 ∧ k = .al (Am.new size own) ∧ A' = A.pin who) (fun k A' => k = .al { Am.new size own with a := (Am.new size own).out (A.pin who) 5 } ∧ A' = A.pin who) ⟨rfl, rfl, rfl⟩ ?_ ?_ ?_ ?_
 ·rintro i k A' i0 i1 ⟨_, rfl, rfl⟩
  have p0 : (Am.new size own).a.pc = 0 := rfl
  have p1 : (Am.new size own).a.tk.pc = 0 := rfl
  have p2 : (Am.new size own).a.tk.top = 0 := rfl
  have p3 : (Am.new size own).a.tk.next = 0 := rfl
  refine ⟨⟨by omega, fun _ => ⟨by omega, fun q => by omega, by omega⟩, fun q => absurd rfl q, fun q => absurd rfl q, fun q => by omega, fun q => by omega, fun q => by omega⟩, hP3.ok.w, hP3.n, ?_⟩
  rw [if_pos (show ((Wk.al (Am.new size own)).step C who (A.pin who)).1 = true from by show ((Am.new size own).step C who (A.pin who)).1 = true; rw [st])]
  exact ⟨by show Wk.al ((Am.new size own).step C who (A.pin who)).2.1 = _; rw [st], by show ((Am.new size own).step C who (A.pin who)).2.2 = _; rw [st]⟩
 ·rintro k A' ⟨rfl, rfl⟩; exact ⟨hP3.ok.w, hP3.n⟩
 ·rintro k A' ⟨e, _⟩; omega
 ·rintro k A' τ ⟨rfl, rfl⟩ hA' hK; exact hk τ hA' hK
theorem c_WoA (hN : N.ok) (hC : C.ok) (hA : isA N A σ) (hwho : 0 ≤ who ∧ who < C.T) {b : Bg} {ob : Int → Option Do} {size h ix v old bb M : Int} {own : Bool} (hok : okAct 1 v old) (hP : Pa C A bb) (hb : bb + 110 < 2305843009213693952) (hW : Wo C b ob M A.w) (hM : M ≤ 900000000)
  (hk : ∀ E H V S b' ob' A' τ, A.s < S → S ≤ A'.s → AlR C b ob A.w size own E H b' ob' A'.w → Wo C b' ob' (M + 17) A'.w → Pa C A' (bb + 110) → A'.n = A.n → A'.w (6 + who) = 0 → isA N A' τ → Keep N.l σ τ → K (.agg #[.int .i64 E, .int .u64 H, .int .i64 V, .int .i64 S]) τ) :
  s_a5 [N.env C who, .agg #[.int .i64 1, .int .i64 size, .int .u64 h, .int .i64 ix, .int .i64 v, .int .i64 old, .bool own]] K σ := by
 have hP3 := hP.pin hC hwho (by omega)
 have e3 := hP.ok.pin_s (who := who) (by omega)
 have hW3 : Wo C b ob M (A.pin who).w := hW.pin hC hwho
 have hS3 := fun s => SameO.pin (s := s) (v := IntKind.u64.wrap (A.w 0 + 1)) hC hwho hW
 by_cases hcl : classOf size < 0
 ·refine c_ActE hN hC hA hwho hok hP (by omega) hcl fun τ hA' hK => ?_
  have hPo := hP3.out hC hwho (by omega)
  have es := hP3.ok.out_s (who := who) (by omega)
  refine hk 5 0 0 _ b ob _ τ (by omega) (by omega) (.inl ⟨by decide, rfl, .inl ⟨hcl, rfl⟩, rfl, rfl, ?_⟩) ?_ (hPo.mono (by omega)) rfl (upd_same _ _ _) hA' hK
  ·exact (hS3 (-1)).1.trans (SameO.pin (v := 0) hC hwho hW3).1
  ·have := hW3.pin (v := 0) hC hwho
   refine ⟨this.aw, this.lv.mono (by omega), this.gen, this.no, this.ok, this.ne, this.sm⟩
 ·have hcl' : 0 ≤ classOf size := by omega
  refine c_ActA hN hC hA hwho hok hP (by omega) hW.aw (hW.lv.ok (by omega)) hcl' fun m A' τ hD hP' hn hA' hK => ?_
  have hPo := hP'.out hC hwho (by omega)
  have es := hP'.ok.out_s (who := who) (by omega)
  have dn := hD.n
  have fin0 : ∀ (hE : m.a.oE ≠ 0) (hH : m.a.oH = 0) (hX : m.a.oE = 6 ∧ b.nx = C.C ∨ m.a.oE = 7 ∧ b.F = []) (haw : b.aw C A'.w), K (.agg #[.int .i64 m.a.oE, .int .u64 m.a.oH, .int .i64 m.a.oV, .int .i64 m.a.oS]) τ := by
   intro hE hH hX haw
   have fws : ∀ s, 0 ≤ s → s < C.S → A'.w (C.slot s) = (A.pin who).w (C.slot s) := fun s s0 s1 => hD.fw.slot s s0 s1 fun q => absurd q hE
   have wW := hW3.same_of hC hD.fw.word
   have hW4 : Wo C b ob M A'.w := hW3.keep hC haw fws wW
   have hW5 : Wo C b ob M (A'.out who).w := hW4.pin (v := 0) hC hwho
   refine hk _ _ _ _ b ob _ τ (by omega) (by omega) (.inl ⟨hE, hH, .inr ⟨hcl', hX⟩, rfl, rfl, ?_⟩) ⟨hW5.aw, hW5.lv.mono (by omega), hW5.gen, hW5.no, hW5.ok, hW5.ne, hW5.sm⟩ (hPo.mono (by omega)) (show A'.n = A.n from hn) (upd_same _ _ _) hA' hK
   refine (hS3 (-1)).1.trans (SameO.trans (fun t e t0 t1 _ he x x0 x1 => ?_) (SameO.pin (v := 0) hC hwho hW4).1)
   have := wW t e t0 t1 he (1 + x) (by omega) (by omega)
   rw [show e.a C + 1 + x = e.a C + (1 + x) by omega]; exact this
  rcases hD.r with ⟨h1, h2, h3, h4⟩ | ⟨s, F, hF, ⟨h1, h2, h3, h4, h5⟩ | ⟨h1, h2, j, b', hg, hj, hu, eH, haw, w1, w2, w3⟩⟩
  ·exact fin0 (by omega) h2 (.inr ⟨h1, h3⟩) h4
  ·exact fin0 (by omega) h2 (.inl ⟨h1, h4⟩) h5
  ·have fwt : Fw C b True (A.pin who).w A'.w := ⟨fun t t0 t1 h => hD.fw.slot t t0 t1 fun _ => h trivial, hD.fw.word⟩
   obtain ⟨d, hW4, hs, obs, dn', dz, dow, ds, hsm, z0⟩ := hW3.make hC hM hF hcl' hg haw w1 w2 w3 fwt
   have hW5 : Wo C (b'.count j (roomOf (classOf size))) (updO ob s (some d)) (M + 17) (A'.out who).w := hW4.pin (v := 0) hC hwho
   have hge := hW3.gen s hs.1 hs.2
   have hG := hC.G
   have hSS := hC.S
   have hh := hd_handle (s := s) (g := slG ((A.pin who).w (C.slot s))) (by omega) (by omega)
   refine hk _ _ _ _ _ _ _ τ (by omega) (by omega) (.inr ⟨h1, hcl', s, F, d, hs, obs, hF, (hg.cnt hC (n := roomOf (classOf size))).1, ?_, rfl, ⟨by rw [eH]; omega, by rw [dn', eH]⟩, dz, dow, ds, ?_, fun x x0 x1 => ?_⟩) hW5 (hPo.mono (by omega)) (show A'.n = A.n from hn) (upd_same _ _ _) hA' hK
   ·show b'.nx ≤ b.nx + 1
    rcases hg with ⟨_, _, q⟩ | ⟨_, _, _, q⟩ <;> rw [q]
    ·show b.nx ≤ _; omega
    ·exact Int.le_refl _
   ·refine (hS3 s).1.trans (hsm.trans ?_)
    exact SameO.mono (SameO.pin (s := s) (v := 0) hC hwho hW4).1 fun t ts => (updO_ne ts).symm
   ·have := hW4.pin_at (v := 0) (x := 1 + x) hC hwho hs.1 hs.2 updO_same (by omega) (by omega)
    rw [show d.a C + 1 + x = d.a C + (1 + x) by omega]
    refine this.trans ?_
    rw [show d.a C + (1 + x) = d.a C + 1 + x by omega]; exact z0 x x0 x1
theorem c_WoD (hN : N.ok) (hC : C.ok) (hA : isA N A σ) (hwho : 0 ≤ who ∧ who < C.T) {b : Bg} {ob : Int → Option Do} {size h ix v old bb M : Int} {own : Bool} (hok : okAct 2 v old) (h0 : 0 ≤ h ∧ h < 18446744073709551616) (hP : Pa C A bb) (hb : bb + 110 < 2305843009213693952) (hW : Wo C b ob M A.w) (hM : M ≤ 900000000)
  (hk : ∀ E V S b' ob' A' τ, A.s < S → S ≤ A'.s → (E = 3 ∧ (∀ s d, ¬ Hit C ob h own s d) ∧ ob' = ob ∧ b' = b ∧ SameO C ob (-1) A.w A'.w ∨ E = 0 ∧ ∃ s d, Hit C ob h own s d ∧ ob' = updO ob s none ∧ SameO C ob s A.w A'.w) → Wo C b' ob' M A'.w → Pa C A' (bb + 110) → A'.n = A.n → A'.w (6 + who) = 0 → isA N A' τ → Keep N.l σ τ → K (.agg #[.int .i64 E, .int .u64 0, .int .i64 V, .int .i64 S]) τ) :
  s_a5 [N.env C who, .agg #[.int .i64 2, .int .i64 size, .int .u64 h, .int .i64 ix, .int .i64 v, .int .i64 old, .bool own]] K σ := by
 have hP3 := hP.pin hC hwho (by omega)
 have e3 := hP.ok.pin_s (who := who) (by omega)
 have hW3 : Wo C b ob M (A.pin who).w := hW.pin hC hwho
 have hS3 := fun s => SameO.pin (s := s) (v := IntKind.u64.wrap (A.w 0 + 1)) hC hwho hW
 by_cases hh : ∃ s d, Hit C ob h own s d
 ·obtain ⟨s, d, hit⟩ := hh
  obtain ⟨⟨s0, s1⟩, hs, rfl, rfl⟩ := hit
  have ho := (hW3.ok s d s0 s1 hs).1
  have hlv := hW.lv.lv d.j ho.j.1 ho.j.2
  refine c_ActD hN hC hA hwho hok hP (by omega) hW.aw ho (by omega) fun m A' τ hD hP' hn hA' hK => ?_
  have hPo := hP'.out hC hwho (by omega)
  have es := hP'.ok.out_s (who := who) (by omega)
  have st := hD.st
  obtain ⟨hW4, hsm⟩ := hW3.drop hC s0 s1 hs hD.fr hD.sl hD.aw
  have hW5 := hW4.pin (v := 0) hC hwho
  refine hk 0 _ _ _ _ _ τ (by omega) (by omega) (.inr ⟨rfl, s, d, ⟨⟨s0, s1⟩, hs, rfl, rfl⟩, rfl, ?_⟩) hW5 (hPo.mono (by omega)) (show A'.n = A.n from hn) (upd_same _ _ _) hA' hK
  refine (hS3 s).1.trans (hsm.trans ?_)
  exact SameO.mono (SameO.pin (s := s) (v := 0) hC hwho hW4).1 fun t ts => (updO_ne ts).symm
 ·have hm : ∀ s d, ¬ Hit C ob h own s d := fun s d q => hh ⟨s, d, q⟩
  refine c_ActNo hN hC hA hwho hok h0 hP (by omega) (hW3.miss hC h0 hm) fun m A' τ hD hA' hK => ?_
  have hok4 := hD.ok _ hP3.ok
  have hs := hD.s
  have hP4 : Pa C A' (bb + 3 + 2) := ⟨hok4, by rw [hD.n]; exact hP.n, fun c c0 c3 => by rw [hD.w]; exact hP3.op c c0 c3⟩
  have hPo := hP4.out hC hwho (by omega)
  have es := hP4.ok.out_s (who := who) (by omega)
  have hW4 : Wo C b ob M A'.w := by rw [hD.w]; exact hW3
  refine hk 3 _ _ b ob _ τ (by omega) (by omega) (.inl ⟨rfl, hm, rfl, rfl, ?_⟩) (hW4.pin (v := 0) hC hwho) (hPo.mono (by omega)) (show A'.n = A.n from hD.n) (upd_same _ _ _) hA' hK
  have e : SameO C ob (-1) (A.pin who).w A'.w := fun t e _ _ _ _ x _ _ => by rw [hD.w]
  exact (hS3 (-1)).1.trans (e.trans (SameO.pin (s := -1) (v := 0) hC hwho hW4).1)
def AxR (C : Cf) (ob : Int → Option Do) (w : Int → Int) (kd h ix v old : Int) (own : Bool) (E V : Int) (w' : Int → Int) : Prop :=
  (E = 3 ∧ (∀ s d, ¬ Hit C ob h own s d) ∧ SameO C ob (-1) w w') ∨ ∃ s d, Hit C ob h own s d ∧
    ((¬ (0 ≤ ix ∧ ix < d.z) ∧ E = 4 ∧ SameO C ob (-1) w w') ∨
     (0 ≤ ix ∧ ix < d.z) ∧ V = ceV (w (d.a C + 1 + ix)) ∧ ((kd = 1 ∨ kd = 3 ∧ V ≠ old) ∧ E = (if kd = 3 then 8 else 0) ∧ SameO C ob (-1) w w' ∨
       ¬ (kd = 1 ∨ kd = 3 ∧ V ≠ old) ∧ E = 0 ∧ SameO C ob s w w' ∧ ∀ x, 0 ≤ x → x < d.z → w' (d.a C + 1 + x) = if x = ix then putCell v false 0 else w (d.a C + 1 + x)))
theorem c_WoX (hN : N.ok) (hC : C.ok) (hA : isA N A σ) (hwho : 0 ≤ who ∧ who < C.T) {b : Bg} {ob : Int → Option Do} {k size h ix v old bb M : Int} {own : Bool} (hok : okAct k v old) (k3 : 3 ≤ k) (h0 : 0 ≤ h ∧ h < 18446744073709551616) (hP : Pa C A bb) (hb : bb + 110 < 2305843009213693952) (hb2 : (A.n : Int) ≤ 200000000) (hW : Wo C b ob M A.w) (hM : M ≤ 900000000)
  (hk : ∀ E V S A' τ, A.s < S → S ≤ A'.s → AxR C ob A.w (k - 2) h ix v old own E V A'.w → Wo C b ob M A'.w → Pa C A' (bb + 110) → A'.n = A.n → A'.w (6 + who) = 0 → isA N A' τ → Keep N.l σ τ → K (.agg #[.int .i64 E, .int .u64 0, .int .i64 V, .int .i64 S]) τ) :
  s_a5 [N.env C who, .agg #[.int .i64 k, .int .i64 size, .int .u64 h, .int .i64 ix, .int .i64 v, .int .i64 old, .bool own]] K σ := by
 have hP3 := hP.pin hC hwho (by omega)
 have e3 := hP.ok.pin_s (who := who) (by omega)
 have hW3 : Wo C b ob M (A.pin who).w := hW.pin hC hwho
 have hS3 := fun s => SameO.pin (s := s) (v := IntKind.u64.wrap (A.w 0 + 1)) hC hwho hW
 by_cases hh : ∃ s d, Hit C ob h own s d
 ·obtain ⟨s, d, hit⟩ := hh
  have hol := hW3.ol hC hit
  have hit' := hit
  obtain ⟨⟨s0, s1⟩, hs, _, _⟩ := hit'
  refine c_ActL hN hC hA hwho hok k3 hP (by omega) hb2 hol fun m A' τ hD hA' hK => ?_
  have hok4 := hD.ok _ hP3.ok
  have cell : ∀ x, 0 ≤ x → x < d.z → (A.pin who).w (d.a C + 1 + x) = A.w (d.a C + 1 + x) := fun x x0 x1 => by
   rw [show d.a C + 1 + x = d.a C + (1 + x) by omega]; exact hW.pin_at hC hwho s0 s1 hs (by omega) (by omega)
  have fin : ∀ (E V S : Int), A.s < S → S ≤ A'.s → AxR C ob (A.pin who).w (k - 2) h ix v old own E V A'.w → Wo C b ob M A'.w → K (.agg #[.int .i64 E, .int .u64 0, .int .i64 V, .int .i64 S]) τ := by
   intro E V S q1 q2 q3 hW4
   have hP4 : Pa C A' (bb + 3 + 4) := hW4.aw.pa hC hok4 (by rw [hD.n]; exact hP.n)
   have hPo := hP4.out hC hwho (by omega)
   have es := hP4.ok.out_s (who := who) (by omega)
   have So := fun s => (SameO.pin (s := s) (v := 0) hC hwho hW4).1
   refine hk _ _ _ _ τ q1 (by omega) ?_ (hW4.pin (v := 0) hC hwho) (hPo.mono (by omega)) (show A'.n = A.n from hD.n) (upd_same _ _ _) hA' hK
   rcases q3 with ⟨r1, r2, r3⟩ | ⟨t, e, ht, ⟨r1, r2, r3⟩ | ⟨r1, r2, r3⟩⟩
   ·exact .inl ⟨r1, r2, (hS3 _).1.trans (r3.trans (So _))⟩
   ·exact .inr ⟨t, e, ht, .inl ⟨r1, r2, (hS3 _).1.trans (r3.trans (So _))⟩⟩
   ·have ht' := ht
    obtain ⟨⟨t0, t1⟩, hte, _, _⟩ := ht'
    have cellt : ∀ x, 0 ≤ x → x < e.z → (A.pin who).w (e.a C + 1 + x) = A.w (e.a C + 1 + x) := fun x x0 x1 => by
     rw [show e.a C + 1 + x = e.a C + (1 + x) by omega]; exact hW.pin_at hC hwho t0 t1 hte (by omega) (by omega)
    refine .inr ⟨t, e, ht, .inr ⟨r1, by rw [r2, cellt ix r1.1 r1.2], ?_⟩⟩
    rcases r3 with ⟨r3, r4, r5⟩ | ⟨r3, r4, r5, r6⟩
    ·exact .inl ⟨r3, r4, (hS3 _).1.trans (r5.trans (So _))⟩
    ·refine .inr ⟨r3, r4, (hS3 _).1.trans (r5.trans (So _)), fun x x0 x1 => ?_⟩
     have h1 := hW4.pin_at (v := 0) (x := 1 + x) hC hwho t0 t1 hte (by omega) (by omega)
     rw [show e.a C + (1 + x) = e.a C + 1 + x by omega] at h1
     refine (show (A'.out who).w (e.a C + 1 + x) = _ from h1).trans ?_
     rw [r6 x x0 x1, cellt x x0 x1]
  rcases hD.r with ⟨r1, r2, r3, r4, r5, r6⟩ | ⟨r1, r2, r3, r4⟩
  ·have r1' : ¬ (0 ≤ ix ∧ ix < d.z) := r1
   rw [r2, r3]
   exact fin _ _ _ (by omega) (by omega) (.inr ⟨s, d, hit, .inl ⟨r1', rfl, fun t e _ _ _ _ x _ _ => by rw [r6]⟩⟩) (by rw [r6]; exact hW3)
  ·have r1' : 0 ≤ ix ∧ ix < d.z := r1
   rcases r4 with ⟨q1, q2, q3, q4⟩ | ⟨q1, q2, q3, q4⟩
   ·refine fin _ _ _ (by omega) (by omega) (.inr ⟨s, d, hit, .inr ⟨r1', r3, .inl ⟨?_, q2, fun t e _ _ _ _ x _ _ => by rw [q4]⟩⟩⟩) (by rw [q4]; exact hW3)
    rw [r3]; exact q1
   ·have hv : 0 ≤ v ∧ v ≤ 1099511627775 := hok.2.1
    obtain ⟨hW4, hsm⟩ := hW3.lay hC s0 s1 hs r1'.1 r1'.2 hv
    have q4' : A'.w = upd (A.pin who).w (d.a C + 1 + ix) (putCell v false 0) := q4
    rw [← q4'] at hW4 hsm
    refine fin _ _ _ (by omega) (by omega) (.inr ⟨s, d, hit, .inr ⟨r1', r3, .inr ⟨?_, q2, hsm, fun x x0 x1 => ?_⟩⟩⟩) hW4
    ·rw [r3]; exact q1
    ·rw [q4']
     by_cases e : x = ix
     ·rw [e, upd_same, if_pos rfl]
     ·rw [upd_ne _ _ (by omega), if_neg e]
 ·have hm : ∀ s d, ¬ Hit C ob h own s d := fun s d q => hh ⟨s, d, q⟩
  refine c_ActNa hN hC hA hwho hok k3 h0 hP (by omega) hb2 (hW3.miss hC h0 hm) fun m A' τ hD hA' hK => ?_
  have hok4 := hD.ok _ hP3.ok
  have hs := hD.s
  have hP4 : Pa C A' (bb + 3 + 2) := ⟨hok4, by rw [hD.n]; exact hP.n, fun c c0 c3 => by rw [hD.w]; exact hP3.op c c0 c3⟩
  have hPo := hP4.out hC hwho (by omega)
  have es := hP4.ok.out_s (who := who) (by omega)
  have hW4 : Wo C b ob M A'.w := by rw [hD.w]; exact hW3
  refine hk 3 _ _ _ τ (by omega) (by omega) (.inl ⟨rfl, hm, ?_⟩) (hW4.pin (v := 0) hC hwho) (hPo.mono (by omega)) (show A'.n = A.n from hD.n) (upd_same _ _ _) hA' hK
  have e : SameO C ob (-1) (A.pin who).w A'.w := fun t e _ _ _ _ x _ _ => by rw [hD.w]
  exact (hS3 (-1)).1.trans (e.trans (SameO.pin (s := -1) (v := 0) hC hwho hW4).1)
theorem c_WoY (hN : N.ok) (hC : C.ok) (hA : isA N A σ) (hwho : 0 ≤ who ∧ who < C.T) {b : Bg} {ob : Int → Option Do} {k size h ix v old bb M : Int} {own : Bool} (hok : okAct k v old) (k2 : 2 ≤ k) (h0 : 0 ≤ h ∧ h < 18446744073709551616) (hP : Pa C A bb) (hb : bb + 110 < 2305843009213693952) (hb2 : (A.n : Int) ≤ 200000000) (hW : Wo C b ob M A.w) (hM : M ≤ 900000000)
  (hk : ∀ E V S b' ob' A' τ, A.s < S → S ≤ A'.s → (E = 3 ∧ (∀ s d, ¬ Hit C ob h own s d) ∧ ob' = ob ∧ SameO C ob (-1) A.w A'.w ∨ ∃ s d, Hit C ob h own s d ∧ (ob' = ob ∨ ob' = updO ob s none) ∧ SameO C ob s A.w A'.w ∧ (k = 2 ∨ (0 ≤ ix ∧ ix < d.z) ∧ (k = 5 → ceV (A.w (d.a C + 1 + ix)) = old) → E = 0)) →
   Wo C b' ob' M A'.w → Pa C A' (bb + 110) → A'.n = A.n → A'.w (6 + who) = 0 → isA N A' τ → Keep N.l σ τ → K (.agg #[.int .i64 E, .int .u64 0, .int .i64 V, .int .i64 S]) τ) :
  s_a5 [N.env C who, .agg #[.int .i64 k, .int .i64 size, .int .u64 h, .int .i64 ix, .int .i64 v, .int .i64 old, .bool own]] K σ := by
 by_cases e : k = 2
 ·subst e
  refine c_WoD hN hC hA hwho hok h0 hP hb hW hM fun E V S b' ob' A' τ q1 q2 q3 q4 q5 q6 q7 q8 q9 => hk E V S b' ob' A' τ q1 q2 ?_ q4 q5 q6 q7 q8 q9
  rcases q3 with ⟨r1, r2, r3, r4, r5⟩ | ⟨r1, s, d, r2, r3, r4⟩
  ·exact .inl ⟨r1, r2, r3, r5⟩
  ·exact .inr ⟨s, d, r2, .inr r3, r4, fun _ => r1⟩
 ·refine c_WoX hN hC hA hwho hok (by omega) h0 hP hb hb2 hW hM fun E V S A' τ q1 q2 q3 q4 q5 q6 q7 q8 q9 => hk E V S b ob A' τ q1 q2 ?_ q4 q5 q6 q7 q8 q9
  rcases q3 with ⟨r1, r2, r3⟩ | ⟨s, d, r2, ⟨r3, r4, r5⟩ | ⟨r3, r4, ⟨r5, r6, r7⟩ | ⟨r5, r6, r7, r8⟩⟩⟩
  ·exact .inl ⟨r1, r2, rfl, r3⟩
  ·refine .inr ⟨s, d, r2, .inl rfl, r5.all, fun q => ?_⟩
   rcases q with q | ⟨q, _⟩
   ·omega
   ·exact absurd q r3
  ·refine .inr ⟨s, d, r2, .inl rfl, r7.all, fun q => ?_⟩
   rcases q with q | ⟨q, q'⟩
   ·omega
   ·rw [r6]
    rcases r5 with r5 | ⟨r5, r5'⟩
    ·rw [if_neg (by omega)]
    ·exact absurd (q' (by omega)) (by rw [← r4]; exact r5')
  ·exact .inr ⟨s, d, r2, .inl rfl, r7, fun _ => r6⟩
theorem c_WoAny (hN : N.ok) (hC : C.ok) (hA : isA N A σ) (hwho : 0 ≤ who ∧ who < C.T) {b : Bg} {ob : Int → Option Do} {k size h ix v old bb M : Int} {own : Bool} (hok : okAct k v old) (h0 : 0 ≤ h ∧ h < 18446744073709551616) (hP : Pa C A bb) (hb : bb + 110 < 2305843009213693952) (hb2 : (A.n : Int) ≤ 200000000) (hW : Wo C b ob M A.w) (hM : M ≤ 900000000)
  (hk : ∀ E H V S b' ob' A' τ, A.s < S → S ≤ A'.s → (0 ≤ H ∧ H < 18446744073709551616) → Wo C b' ob' (M + 17) A'.w → Pa C A' (bb + 110) → A'.n = A.n → isA N A' τ → Keep N.l σ τ → K (.agg #[.int .i64 E, .int .u64 H, .int .i64 V, .int .i64 S]) τ) :
  s_a5 [N.env C who, .agg #[.int .i64 k, .int .i64 size, .int .u64 h, .int .i64 ix, .int .i64 v, .int .i64 old, .bool own]] K σ := by
 by_cases e : k = 1
 ·subst e
  refine c_WoA hN hC hA hwho hok hP hb hW hM fun E H V S b' ob' A' τ q1 q2 q3 q4 q5 q6 q7 q8 q9 => hk E H V S b' ob' A' τ q1 q2 ?_ q4 q5 q6 q8 q9
  rcases q3 with ⟨_, r, _⟩ | ⟨_, _, s, F, d, hs, _, _, _, _, rfl, ⟨_, r⟩, _⟩
  ·rw [r]; decide
  ·rw [← r]; exact (q4.ok s d hs.1 hs.2 updO_same).1.n
 ·have := hok.1
  refine c_WoY hN hC hA hwho hok (by omega) h0 hP hb hb2 hW hM fun E V S b' ob' A' τ q1 q2 q3 q4 q5 q6 q7 q8 q9 => hk E 0 V S b' ob' A' τ q1 q2 (by decide) ⟨q4.aw, q4.lv.mono (by omega), q4.gen, q4.no, q4.ok, q4.ne, q4.sm⟩ q5 q6 q8 q9
end Go.Fl
namespace Go.Fl
open Go
set_option linter.unusedVariables false
set_option linter.unusedSimpArgs false
variable {N : Nm} {A B : Ar} {σ : Mem} {K : Value → Mem → Prop} {C : Cf} {who : Int}
theorem act7 {l : List Value} (h : FlatL [some .i64, some .i64, some .u64, some .i64, some .i64, some .i64, none] l) : ∃ k sz h' ix v old o, l = [.int .i64 k, .int .i64 sz, .int .u64 h', .int .i64 ix, .int .i64 v, .int .i64 old, .bool o] ∧ 0 ≤ h' ∧ h' < 18446744073709551616 := by
 cases h with | cons h1 h =>
 cases h with | cons h2 h =>
 cases h with | cons h3 h =>
 cases h with | cons h4 h =>
 cases h with | cons h5 h =>
 cases h with | cons h6 h =>
 cases h with | cons h7 h =>
 cases h
 obtain ⟨a, rfl, _⟩ := h1
 obtain ⟨b, rfl, _⟩ := h2
 obtain ⟨c, rfl, w⟩ := h3
 obtain ⟨d, rfl, _⟩ := h4
 obtain ⟨e, rfl, _⟩ := h5
 obtain ⟨f, rfl, _⟩ := h6
 obtain ⟨g, rfl⟩ := h7
 have : 0 ≤ c ∧ c ≤ 18446744073709551615 := by simpa [Lit.wf, IntKind.min, IntKind.max, IntKind.signed, IntKind.bits] using w
 exact ⟨a, b, c, d, e, f, g, rfl, by omega, by omega⟩
section
variable {q : Nat} {k sz h ix v old x : Int} {own y : Bool}
theorem gA7 {a b c d e f : Int} {g : Bool} : gStore 7 [.pointer (some ⟨q, 0, some 0⟩), .agg #[.int .i64 k, .int .i64 sz, .int .u64 h, .int .i64 ix, .int .i64 v, .int .i64 old, .bool own]] [.int .i64 a, .int .i64 b, .int .u64 c, .int .i64 d, .int .i64 e, .int .i64 f, .bool g] = some [.int .i64 k, .int .i64 sz, .int .u64 h, .int .i64 ix, .int .i64 v, .int .i64 old, .bool own] := rfl
theorem gA0 : gStore 1 [.pointer (some ⟨q, 0, some 0⟩), .int .i64 x] [.int .i64 k, .int .i64 sz, .int .u64 h, .int .i64 ix, .int .i64 v, .int .i64 old, .bool own] = some [.int .i64 x, .int .i64 sz, .int .u64 h, .int .i64 ix, .int .i64 v, .int .i64 old, .bool own] := rfl
theorem gA2 : gStore 1 [.pointer (some ⟨q, 2, some 0⟩), .int .u64 x] [.int .i64 k, .int .i64 sz, .int .u64 h, .int .i64 ix, .int .i64 v, .int .i64 old, .bool own] = some [.int .i64 k, .int .i64 sz, .int .u64 x, .int .i64 ix, .int .i64 v, .int .i64 old, .bool own] := rfl
theorem gA4 : gStore 1 [.pointer (some ⟨q, 4, some 0⟩), .int .i64 x] [.int .i64 k, .int .i64 sz, .int .u64 h, .int .i64 ix, .int .i64 v, .int .i64 old, .bool own] = some [.int .i64 k, .int .i64 sz, .int .u64 h, .int .i64 ix, .int .i64 x, .int .i64 old, .bool own] := rfl
theorem gA5 : gStore 1 [.pointer (some ⟨q, 5, some 0⟩), .int .i64 x] [.int .i64 k, .int .i64 sz, .int .u64 h, .int .i64 ix, .int .i64 v, .int .i64 old, .bool own] = some [.int .i64 k, .int .i64 sz, .int .u64 h, .int .i64 ix, .int .i64 v, .int .i64 x, .bool own] := rfl
theorem gD4 {a b c d x y z w : Int} : gStore 4 [.pointer (some ⟨q, 0, some 0⟩), .agg #[.int .i64 x, .int .u64 y, .int .i64 z, .int .i64 w]] [.int .i64 a, .int .u64 b, .int .i64 c, .int .i64 d] = some [.int .i64 x, .int .u64 y, .int .i64 z, .int .i64 w] := rfl
def cutK (k : Int) : Int := 1 + (k.tmod 5 + 5).tmod 5
theorem cutK_bd (k : Int) : 1 ≤ cutK k ∧ cutK k ≤ 5 := by
 have := (pickN k (show (0 : Int) < 5 by decide) (by decide)).2; unfold cutK; omega
theorem c_cut : s_a8 [.agg #[.int .i64 k, .int .i64 sz, .int .u64 h, .int .i64 ix, .int .i64 v, .int .i64 old, .bool own]] K σ = K (.agg #[.int .i64 (cutK k), .int .i64 sz, .int .u64 h, .int .i64 ix, .int .i64 (v % 1099511627776), .int .i64 (old % 1099511627776), .bool own]) σ := by
 obtain ⟨pk1, pk2, pk3⟩ := pickN k (show (0 : Int) < 5 by decide) (by decide)
 have ec : IntKind.i64.wrap (1 + (k.tmod 5 + 5).tmod 5) = cutK k := IntWalk.i64_in _ (by omega)
 have t5 : (5 : Int) ≠ 0 := by decide
 simp only [s_a8, w_a8, box7, sub7, xRem t5, pk1, ec, gA0, gA4, gA5, gA7, andI40, ruS, ruL, ruE, Nat.reduceAdd, reduceIte, Int.reduceLT, Int.reduceLE, Int.reduceEq, Int.reduceNeg, Int.reduceAdd, Int.reduceSub, Nat.reduceLeDiff, Nat.reduceLT]
end
end Go.Fl
namespace Go.Fl
open Go
set_option linter.unusedVariables false
set_option linter.unusedSimpArgs false
variable {N : Nm} {A B : Ar} {σ : Mem} {K : Value → Mem → Prop} {C : Cf} {who : Int}
theorem law_ActStamps (σ : Mem) (s : Value) (len : Nat) (cs : List Value) (sl : Sl σ 7 len cs s) (hm : len ≤ maxLen) (hf : FlatL (List.replicate len [some .i64, some .i64, some .u64, some .i64, some .i64, some .i64, none]).flatten cs) :
  s_a4 [s] (fun v _ => v = .bool true) σ := by
 have hg := sl.argS
 simp only [s_a4, w_a4, ruS, ruL, ruE, Nat.reduceAdd, reduceIte, Int.reduceLT, Int.reduceLE, Int.reduceEq, Int.reduceNeg, Int.reduceAdd, Int.reduceSub, Nat.reduceLeDiff, Nat.reduceLT]
 have hC : (cA 1 6 8 40).ok := cA_ok (by omega) (by omega) (by omega) (by omega)
 refine c_Arena (C := cA 1 6 8 40) hC rfl rfl rfl fun N A τ hN hF hA hE hfr => ?_
 have f4 : ∀ (K : Value → Prop), xF (fBuild [(0, 1), (1, 1), (2, 1), (3, 1)] [.int .i64 0, .int .u64 0, .int .i64 0, .int .i64 0] []) [] K = K (.agg #[.int .i64 0, .int .u64 0, .int .i64 0, .int .i64 0]) := fun K => nr rfl
 simp only [c_awake15, gStoreE, w_a4_j1, w_a4_j1b, f4, gD4, ruS, ruL, ruE, Nat.reduceAdd, reduceIte, Int.reduceLT, Int.reduceLE, Int.reduceEq, Int.reduceNeg, Int.reduceAdd, Int.reduceSub, Nat.reduceLeDiff, Nat.reduceLT]
 have hW := hF.wo hC
 have hP := hF.pa hC
 have hn := hF.n
 have hln := len_bd hC
 have hbb : 2 * (cA 1 6 8 40).S + 2 = 14 := rfl
 have hwho : (0 : Int) ≤ 0 ∧ (0 : Int) < (cA 1 6 8 40).T := by decide
 rw [hbb] at hP
 generalize cA 1 6 8 40 = C at *
 generalize Bg.fr C = b at *
 clear hF
 have fin : ∀ τ, w_a4_j2 (fun v _ => v = .bool true) [] [] τ := fun τ => by simp only [w_a4_j2, w_a4_j2b, ruS, ruL, ruE, Nat.reduceAdd, reduceIte, Int.reduceLT, Int.reduceLE, Int.reduceEq, Int.reduceNeg, Int.reduceAdd, Int.reduceSub, Nat.reduceLeDiff, Nat.reduceLT]
 refine xLoop_r (fun m ts ls τ => ∃ i A b ob E H V S, m = (60 - i).toNat ∧ ts = [s, .int .i64 i] ∧ ls = [N.el C 0, [.int .i64 E, .int .u64 H, .int .i64 V, .int .i64 S]] ∧ 0 ≤ i ∧ i ≤ 60 ∧ isA N A τ ∧ Pa C A (14 + 110 * i) ∧ Wo C b ob (17 * i) A.w ∧ (A.n : Int) ≤ 200000000 ∧ (0 ≤ H ∧ H < 18446744073709551616) ∧ Ext σ τ) ?_ (n := 60)
  ⟨0, A, b, _, 0, 0, 0, 0, rfl, rfl, rfl, Int.le_refl 0, by decide, hA, hP, hW, by omega, by decide, hE⟩
 rintro m ts ls τ1 ⟨i, A1, b1, ob1, E, H, V, S, rfl, rfl, rfl, i0, i1, hA1, hP1, hW1, hn1, hH, ext1⟩ R hR
 have hg1 := hg.keep ext1
 simp only [w_law15_ActStamps_l7, w_law15_ActStamps_l7b, hg1.len, ruS, ruL, ruE, Nat.reduceAdd, reduceIte, Int.reduceLT, Int.reduceLE, Int.reduceEq, Int.reduceNeg, Int.reduceAdd, Int.reduceSub, Nat.reduceLeDiff, Nat.reduceLT]
 by_cases c1 : i < len
 rotate_left
 ·simp only [c1, ruS, ruL, ruE, Nat.reduceAdd, reduceIte, Int.reduceLT, Int.reduceLE, Int.reduceEq, Int.reduceNeg, Int.reduceAdd, Int.reduceSub, Nat.reduceLeDiff, Nat.reduceLT]; exact fin _
 by_cases c2 : i < 60
 rotate_left
 ·simp only [c1, c2, ruS, ruL, ruE, Nat.reduceAdd, reduceIte, Int.reduceLT, Int.reduceLE, Int.reduceEq, Int.reduceNeg, Int.reduceAdd, Int.reduceSub, Nat.reduceLeDiff, Nat.reduceLT]; exact fin _
 have hel := hf.elem (i := i.toNat) (by omega)
 obtain ⟨k, sz, h, ix, v, old, own, hL, n0, n1⟩ := act7 hel
 simp only [c1, c2, w_a4_j3, w_a4_j3b, ruS, ruL, ruE, Nat.reduceAdd, reduceIte, Int.reduceLT, Int.reduceLE, Int.reduceEq, Int.reduceNeg, Int.reduceAdd, Int.reduceSub, Nat.reduceLeDiff, Nat.reduceLT]
 rw [hg1.ix i0 c1]
 simp only [List.length_cons, List.length_nil, Nat.zero_add, Nat.reduceAdd] at hL
 rw [hL]
 simp only [c_cut, gA7, ruS, ruL, ruE, Nat.reduceAdd, reduceIte, Int.reduceLT, Int.reduceLE, Int.reduceEq, Int.reduceNeg, Int.reduceAdd, Int.reduceSub, Nat.reduceLeDiff, Nat.reduceLT]
 have j5 : ∀ h', 0 ≤ h' ∧ h' < 18446744073709551616 → w_a4_j5 (fun v _ => v = .bool true) (w_a4_j2 fun v _ => v = .bool true) R (w_a4_j4 (fun v _ => v = .bool true) (w_a4_j2 fun v _ => v = .bool true) R)
   [s, .int .i64 i] [N.el C 0, [.int .i64 E, .int .u64 H, .int .i64 V, .int .i64 S], [.int .i64 (cutK k), .int .i64 sz, .int .u64 h', .int .i64 ix, .int .i64 (v % 1099511627776), .int .i64 (old % 1099511627776), .bool own]] τ1 := by
  intro h' hh'
  simp only [w_a4_j5, w_a4_j5b, c_NowA hA1, sub7, ruS, ruL, ruE, Nat.reduceAdd, reduceIte, Int.reduceLT, Int.reduceLE, Int.reduceEq, Int.reduceNeg, Int.reduceAdd, Int.reduceSub, Nat.reduceLeDiff, Nat.reduceLT]
  have ok1 : okAct (cutK k) (v % 1099511627776) (old % 1099511627776) := ⟨cutK_bd k, by omega, by omega⟩
  refine c_WoAny hN hC hA1 hwho ok1 hh' hP1 (by omega) hn1 hW1 (by omega) fun E2 H2 V2 S2 b2 ob2 A2 τ2 q1 q2 q3 hW2 hP2 hn2 hA2 k2 => ?_
  have ext2 := ext1.keep' k2 hfr.all
  have s1 : ¬ S2 < A1.s := by omega
  have s2 : ¬ A2.s < S2 := by omega
  have s3 : ¬ S2 = A1.s := by omega
  have nxt : ∀ E' H' V' S', (0 ≤ H' ∧ H' < 18446744073709551616) → w_a4_j4 (fun v _ => v = .bool true) (w_a4_j2 fun v _ => v = .bool true) R [s, .int .i64 i] [N.el C 0, [.int .i64 E', .int .u64 H', .int .i64 V', .int .i64 S']] τ2 := by
   intro E' H' V' S' hH'
   simp only [w_a4_j4, w_a4_j4b, ruS, ruL, ruE, Nat.reduceAdd, reduceIte, Int.reduceLT, Int.reduceLE, Int.reduceEq, Int.reduceNeg, Int.reduceAdd, Int.reduceSub, Nat.reduceLeDiff, Nat.reduceLT]
   rw [IntWalk.i64_in (i + 1) (by omega)]
   exact hR (60 - (i + 1)).toNat _ _ _ (by omega) ⟨i + 1, A2, b2, ob2, E', H', V', S', rfl, rfl, rfl, by omega, by omega, hA2, hP2.mono (by omega), by rw [show 17 * (i + 1) = 17 * i + 17 by omega]; exact hW2, by omega, hH', ext2⟩
  have j6 : w_a4_j6 (fun v _ => v = .bool true) (w_a4_j2 fun v _ => v = .bool true) R (w_a4_j4 (fun v _ => v = .bool true) (w_a4_j2 fun v _ => v = .bool true) R)
    [s, .int .i64 i, .bool false] [N.el C 0, [.int .i64 E, .int .u64 H, .int .i64 V, .int .i64 S], [.int .i64 E2, .int .u64 H2, .int .i64 V2, .int .i64 S2]] τ2 := by
   simp only [w_a4_j6, w_a4_j6b, ruS, ruL, ruE, Nat.reduceAdd, reduceIte, Int.reduceLT, Int.reduceLE, Int.reduceEq, Int.reduceNeg, Int.reduceAdd, Int.reduceSub, Nat.reduceLeDiff, Nat.reduceLT]
   by_cases c : H2 = 0
   ·simp only [c, ne_eq, not_true_eq_false, ruS, ruL, ruE, Nat.reduceAdd, reduceIte, Int.reduceLT, Int.reduceLE, Int.reduceEq, Int.reduceNeg, Int.reduceAdd, Int.reduceSub, Nat.reduceLeDiff, Nat.reduceLT]; exact nxt _ _ _ _ hH
   ·simp only [c, ne_eq, not_false_eq_true, sub4, gD4, ruS, ruL, ruE, Nat.reduceAdd, reduceIte, Int.reduceLT, Int.reduceLE, Int.reduceEq, Int.reduceNeg, Int.reduceAdd, Int.reduceSub, Nat.reduceLeDiff, Nat.reduceLT]; exact nxt _ _ _ _ q3
  simp only [gD4, s1, s2, s3, c_NowA hA2, ruS, ruL, ruE, Nat.reduceAdd, reduceIte, Int.reduceLT, Int.reduceLE, Int.reduceEq, Int.reduceNeg, Int.reduceAdd, Int.reduceSub, Nat.reduceLeDiff, Nat.reduceLT]
  by_cases c : E2 = 0
  ·simp only [c, ruS, ruL, ruE, Nat.reduceAdd, reduceIte, Int.reduceLT, Int.reduceLE, Int.reduceEq, Int.reduceNeg, Int.reduceAdd, Int.reduceSub, Nat.reduceLeDiff, Nat.reduceLT]; rw [c] at j6; exact j6
  ·simp only [c, ruS, ruL, ruE, Nat.reduceAdd, reduceIte, Int.reduceLT, Int.reduceLE, Int.reduceEq, Int.reduceNeg, Int.reduceAdd, Int.reduceSub, Nat.reduceLeDiff, Nat.reduceLT]; exact j6
 have t2 : (2 : Int) ≠ 0 := by decide
 by_cases c : H = 0
 ·simp only [c, ne_eq, not_true_eq_false, w_a4_j7, w_a4_j7b, ruS, ruL, ruE, Nat.reduceAdd, reduceIte, Int.reduceLT, Int.reduceLE, Int.reduceEq, Int.reduceNeg, Int.reduceAdd, Int.reduceSub, Nat.reduceLeDiff, Nat.reduceLT]
  have := j5 h ⟨n0, n1⟩
  rw [c] at this; exact this
 ·by_cases c' : i.tmod 2 = 1
  ·simp only [c, c', ne_eq, not_false_eq_true, xRem t2, w_a4_j7, w_a4_j7b, gA2, ruS, ruL, ruE, Nat.reduceAdd, reduceIte, Int.reduceLT, Int.reduceLE, Int.reduceEq, Int.reduceNeg, Int.reduceAdd, Int.reduceSub, Nat.reduceLeDiff, Nat.reduceLT]; exact j5 H hH
  ·simp only [c, c', ne_eq, not_false_eq_true, xRem t2, w_a4_j7, w_a4_j7b, gA2, ruS, ruL, ruE, Nat.reduceAdd, reduceIte, Int.reduceLT, Int.reduceLE, Int.reduceEq, Int.reduceNeg, Int.reduceAdd, Int.reduceSub, Nat.reduceLeDiff, Nat.reduceLT]; exact j5 h ⟨n0, n1⟩
end Go.Fl
