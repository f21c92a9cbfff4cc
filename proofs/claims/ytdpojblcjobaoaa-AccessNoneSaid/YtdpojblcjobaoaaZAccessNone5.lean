/- What the claim leans on, part 5: own readings of the program's functions, what they come to, laws of them. No condition. -/
import Derived.Test.YtdpojblcjobaoaaZAccessNone4
namespace Go.Fl
open Go
set_option linter.unusedVariables false
set_option linter.unusedSimpArgs false
variable {N : Nm} {A B : Ar} {σ : Mem} {K : Value → Mem → Prop} {C : Cf} {who : Int}
structure Ak where
  a : Ac
  h : Hl
def Ak.new (kd n ix v old : Int) (own : Bool) : Ak := ⟨Ac.new kd n ix v old own, Hl.new 0 0 0⟩
def Ak.step (C : Cf) (who : Int) (A : Ar) (m : Ak) : Bool × Ak × Ar :=
  if m.a.pc = 4 then
    if (m.h.step C who A).1 = true then (false, { m with a := { m.a with pc := 0 } }, (m.h.step C who A).2.2) else (false, { m with h := (m.h.step C who A).2.1 }, (m.h.step C who A).2.2)
  else ((m.a.step C who A).1, ⟨(m.a.step C who A).2.1, if m.a.pc = 2 then Hl.new m.a.hs m.a.w m.a.size else m.h⟩, (m.a.step C who A).2.2)
structure Ak.fit (C : Cf) (A : Ar) (m : Ak) : Prop where
  a : m.a.fit C A
  h : m.a.pc = 4 → m.h.fit C
def Ac.wh (a : Ac) (x : Option Nat) : Ac := { a with help := x }
theorem Ac.step_help {a : Ac} {x : Option Nat} : (a.wh x).step C who A = ((a.step C who A).1, (a.step C who A).2.1.wh x, (a.step C who A).2.2) := by
  obtain ⟨kd, n, ix, v, old, own, hs, hg, pc, w, cell, seen, rd, size, help, oE, oH, oV, oS⟩ := a
  unfold Ac.step Ac.wh Ac.at' Ac.fin Ac.nxt
  dsimp only
  repeat' split
  all_goals rfl
theorem Ac.step_pc {a : Ac} (h2 : a.pc ≠ 2) (h4 : a.pc ≠ 4) : (a.step C who A).2.1.pc ≠ 4 := by
  unfold Ac.step Ac.fin
  repeat' split
  all_goals (dsimp only; omega)
structure AOb (N : Nm) (p : Nat) (O : List Nat) (m : Ak) (τ : Mem) : Prop where
  obj : ∃ x, τ.get p = some ⟨(m.a.wh x).l, true⟩ ∧ (m.a.pc = 4 → ∃ q, x = some q ∧ q ∈ O ∧ q ≠ p ∧ τ.get q = some ⟨[] ++ m.h.l ++ [], true⟩)
  own : ∀ i ∈ O, i ∉ N.l
  p : p ∈ O
theorem AOb.ext {p : Nat} {O : List Nat} {m : Ak} {τ : Mem} (h : AOb N p O m σ) (x : Ext σ τ) : AOb N p O m τ := by
  obtain ⟨⟨a, h1, h2⟩, h4, h5⟩ := h
  refine ⟨⟨a, x _ _ h1, fun e => ?_⟩, h4, h5⟩
  obtain ⟨q, q1, q2, q3, q4⟩ := h2 e; exact ⟨q, q1, q2, q3, x _ _ q4⟩
theorem AOb.keep {p : Nat} {O L : List Nat} {m : Ak} {τ : Mem} (h : AOb N p O m σ) (x : Keep L σ τ) (hL : ∀ i ∈ O, i ∉ L) : AOb N p O m τ := by
  obtain ⟨⟨a, h1, h2⟩, h4, h5⟩ := h
  refine ⟨⟨a, x.get h1 (hL p h5), fun e => ?_⟩, h4, h5⟩
  obtain ⟨q, q1, q2, q3, q4⟩ := h2 e; exact ⟨q, q1, q2, q3, x.get q4 (hL q q2)⟩
theorem c_Acc_Step (hN : N.ok) (hC : C.ok) (hA : isA N A σ) {p : Nat} {O : List Nat} {m : Ak} (hO : AOb N p O m σ) (hw : ∀ i, 0 ≤ A.w i ∧ A.w i < 18446744073709551616) (hn : C.len ≤ A.n) (hf : m.fit C A)
    (hk : ∀ O' τ, (∀ i ∈ O', i ∈ O ∨ σ.get i = none) → isA N (m.step C who A).2.2 τ → AOb N p O' (m.step C who A).2.1 τ → Keep (O ++ N.l) σ τ → K (.bool (m.step C who A).1) τ) : s_access_Access_Step [.pointer (some ⟨p, 0, none⟩), N.env C who] K σ := by
  obtain ⟨⟨x, hp, h3⟩, own, pO⟩ := hO
  have hd := own p pO
  have k1 : ∀ {τ : Mem}, Keep (p :: N.l) σ τ → Keep (O ++ N.l) σ τ := fun k => k.mono fun i hi => by
    rcases List.mem_cons.1 hi with rfl | hi
    · exact List.mem_append_left _ pO
    · exact List.mem_append_right _ hi
  have same : ∀ i ∈ O, i ∈ O ∨ σ.get i = none := fun i hi => .inl hi
  have cons : ∀ {q : Nat}, σ.get q = none → ∀ i ∈ q :: O, i ∈ O ∨ σ.get i = none := fun h i hi => by rcases List.mem_cons.1 hi with rfl | hi; exact .inr h; exact .inl hi
  have ownc : ∀ {q : Nat}, q ∉ N.l → ∀ i ∈ q :: O, i ∉ N.l := fun h i hi => by rcases List.mem_cons.1 hi with rfl | hi; exact h; exact own i hi
  have hpc := hf.a.pc
  have hfx : (m.a.wh x).fit C A := ⟨hf.a.pc, hf.a.n, hf.a.hs, hf.a.w, hf.a.cell, hf.a.a1, hf.a.a2, hf.a.bd⟩
  have hpx : (m.a.wh x).pc = m.a.pc := rfl
  by_cases c4 : m.a.pc = 4
  · unfold Ak.step at hk
    rw [if_pos c4] at hk
    obtain ⟨q, rfl, qO, qp, gq⟩ := h3 c4
    have k2 : ∀ {τ : Mem}, Keep (q :: p :: N.l) σ τ → Keep (O ++ N.l) σ τ := fun k => k.mono fun i hi => by
      rcases List.mem_cons.1 hi with rfl | hi
      · exact List.mem_append_left _ qO
      · rcases List.mem_cons.1 hi with rfl | hi
        · exact List.mem_append_left _ pO
        · exact List.mem_append_right _ hi
    refine c_Ac4 hN hC hA (a := m.a.wh (some q)) (t := m.h) hp hd gq (own q qO) qp hw hn c4 rfl (hf.h c4) (fun d τ u1 u2 u3 u4 => ?_) (fun d τ u1 u2 u3 => ?_)
    · rw [if_neg (by rw [d]; decide)] at hk
      exact hk O τ same u1 ⟨⟨some q, u2, fun _ => ⟨q, rfl, qO, qp, u3⟩⟩, own, pO⟩ (k2 u4)
    · rw [if_pos d] at hk
      exact hk O τ same u1 ⟨⟨some q, u2, fun e => by dsimp only at e; omega⟩, own, pO⟩ (k2 u3)
  unfold Ak.step at hk
  rw [if_neg c4] at hk
  by_cases c2 : m.a.pc = 2
  · rw [if_pos c2] at hk
    have e := Ac.step_help (C := C) (who := who) (A := A) (a := m.a) (x := x)
    refine c_Ac2 hN hC hA (a := m.a.wh x) (who := who) hp hd hw hfx c2 ?_ ?_
    · rw [e]
      intro c τ u1 u2 u3
      exact hk O τ same u1 ⟨⟨x, u2, fun q => absurd q c⟩, own, pO⟩ (k1 u3)
    · rw [e]
      intro c q τ q1 q2 u1 u2 u3 u4
      exact hk (q :: O) τ (cons q1) u1 ⟨⟨some q, u2, fun _ => ⟨q, rfl, List.mem_cons_self .., q2, by rw [List.nil_append, List.append_nil]; exact u3⟩⟩, ownc (hA.new q1), List.mem_cons_of_mem _ pO⟩ (k1 u4)
  rw [if_neg c2] at hk
  have np := Ac.step_pc (C := C) (who := who) (A := A) c2 c4
  have hk' : ∀ τ, isA N ((m.a.wh x).step C who A).2.2 τ → τ.get p = some ⟨((m.a.wh x).step C who A).2.1.l, true⟩ → Keep (p :: N.l) σ τ → K (.bool ((m.a.wh x).step C who A).1) τ := by
    rw [Ac.step_help]
    intro τ u1 u2 u3
    exact hk O τ same u1 ⟨⟨x, u2, fun q => absurd q np⟩, own, pO⟩ (k1 u3)
  rcases (show m.a.pc = 0 ∨ m.a.pc = 1 ∨ m.a.pc = 3 ∨ m.a.pc = 5 ∨ m.a.pc = 6 by omega) with c | c | c | c | c
  · exact c_Ac0 hN hC hA hp hd hw hn hfx c hk'
  · exact c_Ac1 hN hC hA hp hd hw hfx c hk'
  · exact c_Ac3 hN hC hA hp hd hn hfx c hk'
  · exact c_Ac5 hN hC hA hp hd hfx c hk'
  · exact c_Ac6 hN hC hA hp hd hw hn hfx c hk'
theorem AOb.done {p : Nat} {O : List Nat} {m : Ak} (hA : isA N A σ) (h : AOb N p O m σ) (hk : K (.agg #[.int .i64 m.a.oE, .int .u64 m.a.oH, .int .i64 m.a.oV, .int .i64 m.a.oS]) σ) : s_access_Access_Done [.pointer (some ⟨p, 0, none⟩)] K σ := by
  obtain ⟨⟨x, hp, _⟩, own, pO⟩ := h
  exact c_AccDone hA (a := m.a.wh x) hp hk
theorem aob_new {kd n ix v old : Int} {o : Bool} (hA : isA N A σ) (hk : ∀ p τ, σ.get p = none → AOb N p [p] (Ak.new kd n ix v old o) τ → Ext σ τ → K (.pointer (some ⟨p, 0, none⟩)) τ) : s_access_New [.agg #[.int .i64 kd, .int .u64 n, .int .i64 ix, .int .i64 v, .int .i64 old], .bool o] K σ := by
  refine c_AccNew fun p τ hp gp x => hk p τ hp ⟨⟨none, gp, (fun e => by cases e)⟩, fun i hi => ?_, List.mem_singleton.2 rfl⟩ x
  rw [List.mem_singleton.1 hi]; exact hA.new hp
theorem c_awake10 : s_law10_awake [] K σ = K (.bool true) σ := by unfold s_law10_awake; exact nr rfl
theorem c_Acc (hN : N.ok) (hC : C.ok) (hA : isA N A σ) {kd n ix v old : Int} {o : Bool} (I : Int → Ak → Ar → Prop) (D : Ak → Ar → Prop) (h0 : I 0 (Ak.new kd n ix v old o) A)
    (hs : ∀ k m A, 0 ≤ k → k < 200 → I k m A → m.fit C A ∧ (∀ i, 0 ≤ A.w i ∧ A.w i < 18446744073709551616) ∧ C.len ≤ A.n ∧ if (m.step C who A).1 = true then D (m.step C who A).2.1 (m.step C who A).2.2 else I (k + 1) (m.step C who A).2.1 (m.step C who A).2.2)
    (he : ∀ m A, I 200 m A → D m A) (hk : ∀ m A' τ, D m A' → isA N A' τ → Keep N.l σ τ → K (.agg #[.int .i64 m.a.oE, .int .u64 m.a.oH, .int .i64 m.a.oV, .int .i64 m.a.oS]) τ) :
    s_law10_Do [N.env C who, .agg #[.int .i64 kd, .int .u64 n, .int .i64 ix, .int .i64 v, .int .i64 old], .bool o] K σ := by
  have gs : ∀ x y z w : Int, gStore 4 [.pointer (some ⟨6, 0, some 0⟩), .agg #[.int .i64 x, .int .u64 y, .int .i64 z, .int .i64 w]] [.int .i64 0, .int .u64 0, .int .i64 0, .int .i64 0] = some [.int .i64 x, .int .u64 y, .int .i64 z, .int .i64 w] := fun _ _ _ _ => rfl
  have g : gBox 5 [.agg #[.int .i64 kd, .int .u64 n, .int .i64 ix, .int .i64 v, .int .i64 old]] [] = some [.int .i64 kd, .int .u64 n, .int .i64 ix, .int .i64 v, .int .i64 old] := rfl
  have s5 : ∀ x y z u w : Value, sub [x, y, z, u, w] 0 5 true = some (.agg #[x, y, z, u, w]) := fun _ _ _ _ _ => rfl
  simp only [s_law10_Do, w_law10_Do, g, s5, ruS, ruL, ruE, Nat.reduceAdd, reduceIte, Int.reduceLT, Int.reduceLE, Int.reduceEq, Int.reduceNeg, Int.reduceAdd, Int.reduceSub, Nat.reduceLeDiff, Nat.reduceLT]
  refine aob_new hA fun p τ0 hp ho x0 => ?_
  have fin : ∀ m A' τ, D m A' → isA N A' τ → (∃ O, AOb N p O m τ) → Keep N.l σ τ → w_law10_Do_j1 K [.pointer (some ⟨p, 0, none⟩)] [[.int .i64 0, .int .u64 0, .int .i64 0, .int .i64 0]] τ := by
    rintro m A' τ hD hA' ⟨O, hO⟩ hK
    simp only [w_law10_Do_j1, w_law10_Do_j1b, ruS, ruL, ruE, Nat.reduceAdd, reduceIte, Int.reduceLT, Int.reduceLE, Int.reduceEq, Int.reduceNeg, Int.reduceAdd, Int.reduceSub, Nat.reduceLeDiff, Nat.reduceLT]
    refine AOb.done hA' hO ?_
    simp only [gs, sub4, ruS, ruL, ruE, Nat.reduceAdd, reduceIte, Int.reduceLT, Int.reduceLE, Int.reduceEq, Int.reduceNeg, Int.reduceAdd, Int.reduceSub, Nat.reduceLeDiff, Nat.reduceLT]
    exact hk m A' τ hD hA' hK
  refine xLoop_i (fun i => [.pointer (some ⟨p, 0, none⟩), .int .i64 i]) [N.el C who, [.int .i64 0, .int .u64 0, .int .i64 0, .int .i64 0]] 200
    (fun i τ => ∃ m A' O, 0 ≤ i ∧ i ≤ 200 ∧ isA N A' τ ∧ I i m A' ∧ AOb N p O m τ ∧ (∀ j ∈ O, σ.get j = none) ∧ Keep N.l σ τ) ?_ ⟨_, A, [p], by omega, by omega, hA.ext x0, h0, ho, fun j hj => by rw [List.mem_singleton.1 hj]; exact hp, x0.keep⟩
  rintro i τ ⟨m, A', O, i0, i1, hA', hI, hO, hOn, hK⟩ R hR
  simp only [w_law10_Do_l4, w_law10_Do_l4b, ruS, ruL, ruE, Nat.reduceAdd, reduceIte, Int.reduceLT, Int.reduceLE, Int.reduceEq, Int.reduceNeg, Int.reduceAdd, Int.reduceSub, Nat.reduceLeDiff, Nat.reduceLT]
  by_cases ci : i < 200
  · simp only [ci, ruS, ruL, ruE, Nat.reduceAdd, reduceIte, Int.reduceLT, Int.reduceLE, Int.reduceEq, Int.reduceNeg, Int.reduceAdd, Int.reduceSub, Nat.reduceLeDiff, Nat.reduceLT]
    obtain ⟨hf, hw, hn, hst⟩ := hs i m A' i0 ci hI
    refine c_Acc_Step hN hC hA' hO hw hn hf fun O' τ' hO' hA2 hO2 hK2 => ?_
    have hK3 : Keep N.l σ τ' := by
      intro j b hj hn'
      refine hK2 j b (hK j b hj hn') fun hm => ?_
      rcases List.mem_append.1 hm with h | h
      · rw [hOn j h] at hj; cases hj
      · exact hn' h
    have hOn' : ∀ j ∈ O', σ.get j = none := by
      intro j hj
      rcases hO' j hj with h | h
      · exact hOn j h
      · cases e : σ.get j with
        | none => rfl
        | some b => rw [hK j b e (hA'.new h)] at h; cases h
    generalize m.step C who A' = r at *
    obtain ⟨d, m', A2⟩ := r
    dsimp only at *
    cases d with
    | true =>
      simp only [ruS, ruL, ruE, Nat.reduceAdd, reduceIte, Int.reduceLT, Int.reduceLE, Int.reduceEq, Int.reduceNeg, Int.reduceAdd, Int.reduceSub, Nat.reduceLeDiff, Nat.reduceLT] at hst ⊢
      exact fin m' A2 τ' hst hA2 ⟨O', hO2⟩ hK3
    | false =>
      simp only [ruS, ruL, ruE, Nat.reduceAdd, reduceIte, Int.reduceLT, Int.reduceLE, Int.reduceEq, Int.reduceNeg, Int.reduceAdd, Int.reduceSub, Nat.reduceLeDiff, Nat.reduceLT] at hst ⊢
      rw [IntWalk.i64_in (i + 1) (by omega)]
      exact hR _ ci ⟨m', A2, O', by omega, by omega, hA2, hst, hO2, hOn', hK3⟩
  · simp only [ci, ruS, ruL, ruE, Nat.reduceAdd, reduceIte, Int.reduceLT, Int.reduceLE, Int.reduceEq, Int.reduceNeg, Int.reduceAdd, Int.reduceSub, Nat.reduceLeDiff, Nat.reduceLT]
    have : i = 200 := by omega
    subst this
    exact fin m A' τ (he _ _ hI) hA' ⟨O, hO⟩ hK
end Go.Fl
namespace Go.Fl
open Go
set_option linter.unusedVariables false
set_option linter.unusedSimpArgs false
variable {N : Nm} {A B : Ar} {σ : Mem} {K : Value → Mem → Prop} {C : Cf} {who : Int}
structure Alo (C : Cf) (o u : Int → Int) (nx : Int) (w : Int → Int) : Prop where
  bd : 0 ≤ nx ∧ nx ≤ C.C
  op : ∀ c, 0 ≤ c → c ≤ 3 → w (2 + c) = o c + 1 ∧ -1 ≤ o c ∧ o c < nx
  cls : ∀ c, 0 ≤ c → c ≤ 3 → 0 ≤ o c → chC (w (C.chunk (o c))) = c
  old : ∀ j, 0 ≤ j → j < nx → chS (w (C.chunk j)) = 1 ∧ chU (w (C.chunk j)) = u j ∧ 0 ≤ u j ∧ u j ≤ C.W
  new : ∀ j, nx ≤ j → j < C.C → w (C.chunk j) = 0 ∧ u j = 0
def good (C : Cf) (o u : Int → Int) (c : Int) : Prop := 0 ≤ o c ∧ u (o c) + roomOf c ≤ C.W
theorem Alo.take (hC : C.ok) {o u w : Int → Int} {nx c : Int} (h : Alo C o u nx w) (c0 : 0 ≤ c) (c3 : c ≤ 3) (hn : nx < C.C) :
    Alo C (upd o c nx) u (nx + 1) (upd (upd w (C.chunk nx) (putChunk 1 c 0 1)) (2 + c) (nx + 1)) := by
  have hW := hC.W
  obtain ⟨p1, p2, p3, p4⟩ := ch_put (st := 1) (c := c) (us := 0) (sp := 1) (by omega) (by omega) (by omega) (by omega)
  have wc : ∀ j, 0 ≤ j → j ≠ nx → upd (upd w (C.chunk nx) (putChunk 1 c 0 1)) (2 + c) (nx + 1) (C.chunk j) = w (C.chunk j) := by
    intro j j0 hj
    rw [upd_ne _ _ (chunk_ne hC j0 c3), upd_ne _ _ (fun e => hj (chunk_inj e))]
  have wn : upd (upd w (C.chunk nx) (putChunk 1 c 0 1)) (2 + c) (nx + 1) (C.chunk nx) = putChunk 1 c 0 1 := by
    rw [upd_ne _ _ (chunk_ne hC h.bd.1 c3), upd_same]
  have un := (h.new nx (Int.le_refl _) hn).2
  refine ⟨⟨by have := h.bd; omega, by omega⟩, fun k k0 k3 => ?_, fun k k0 k3 hk => ?_, fun j j0 j1 => ?_, fun j j0 j1 => ?_⟩
  · by_cases e : k = c
    · subst e; rw [upd_same, upd_same]; have := h.bd; omega
    · rw [upd_ne _ _ (by omega), upd_ne _ _ (fun q => chunk_ne hC h.bd.1 k3 q.symm), upd_ne _ _ e]
      have := h.op k k0 k3; omega
  · by_cases e : k = c
    · subst e; rw [upd_same] at hk ⊢; rw [wn]; exact p2
    · rw [upd_ne _ _ e] at hk ⊢
      have := h.op k k0 k3
      rw [wc _ hk (by omega)]; exact h.cls k k0 k3 hk
  · by_cases e : j = nx
    · subst e; rw [wn, un]; exact ⟨p1, p3, by omega, by omega⟩
    · rw [wc _ j0 e]; exact h.old j j0 (by omega)
  · have := h.bd
    rw [wc _ (by omega) (by omega)]; exact h.new j (by omega) j1
end Go.Fl
namespace Go.Fl
open Go
set_option linter.unusedVariables false
set_option linter.unusedSimpArgs false
variable {N : Nm} {A B : Ar} {σ : Mem} {K : Value → Mem → Prop} {C : Cf} {who : Int}
def Chn (C : Cf) (w : Int → Int) : Int → List Int → Prop
  | f, [] => f = -1
  | f, s :: l => f = s ∧ 0 ≤ s ∧ s < C.S ∧ Chn C w (topS (w (C.slot s + 1))) l
structure Fre (C : Cf) (w : Int → Int) (l : List Int) : Prop where
  c : Chn C w (topS (w 1)) l
  nd : l.Nodup
theorem topS_put {s c : Int} (h0 : -1 ≤ s) (h1 : s ≤ 65535) : topS (putTop s c) = s := by unfold topS putTop cl; omega
theorem Chn.mem {w : Int → Int} : ∀ {l : List Int} {f : Int}, Chn C w f l → ∀ s ∈ l, 0 ≤ s ∧ s < C.S
  | [], _, _, s, h => by cases h
  | x :: l, f, hc, s, h => by
    rcases List.mem_cons.1 h with rfl | h
    · exact ⟨hc.2.1, hc.2.2.1⟩
    · exact Chn.mem hc.2.2.2 s h
theorem Chn.congr {w w' : Int → Int} : ∀ {l : List Int} {f : Int}, Chn C w f l → (∀ s ∈ l, topS (w' (C.slot s + 1)) = topS (w (C.slot s + 1))) → Chn C w' f l
  | [], _, h, _ => h
  | x :: l, f, hc, h => ⟨hc.1, hc.2.1, hc.2.2.1, by rw [h x (by simp)]; exact Chn.congr hc.2.2.2 fun s hs => h s (by simp [hs])⟩
theorem Chn.first {w : Int → Int} {l : List Int} {f : Int} (h : Chn C w f l) : -1 ≤ f ∧ f < C.S ∨ C.S < 0 := by
  cases l with
  | nil => unfold Chn at h; omega
  | cons x l => have := h.1; have := h.2.1; have := h.2.2.1; omega
def upL (i : Int) : Nat → List Int
  | 0 => []
  | n + 1 => i :: upL (i + 1) n
theorem upL_mem : ∀ {n : Nat} {i s : Int}, s ∈ upL i n ↔ i ≤ s ∧ s < i + n
  | 0, i, s => by simp [upL]
  | n + 1, i, s => by
    simp only [upL, List.mem_cons, upL_mem (n := n)]; omega
theorem upL_nodup : ∀ {n : Nat} {i : Int}, (upL i n).Nodup
  | 0, i => by simp [upL]
  | n + 1, i => by
    refine List.nodup_cons.2 ⟨fun h => ?_, upL_nodup⟩
    have := (upL_mem (n := n)).1 h
    omega
theorem w0_link (hC : C.ok) {s : Int} (h0 : 0 ≤ s) (h1 : s < C.S) : topS (C.w0 (C.slot s + 1)) = if s = C.S - 1 then -1 else s + 1 := by
  have hT := hC.T
  have hS := hC.S
  unfold Cf.w0
  rw [if_neg (by unfold Cf.slot; omega)]
  by_cases e : s = C.S - 1
  · rw [if_pos (by rw [e]), if_pos e, topS_put (by omega) (by omega)]
  · rw [if_neg (by unfold Cf.slot; omega), if_neg e]
    unfold Cf.fr Cf.slot
    rw [if_pos (by omega), if_neg (by omega), topS_put (by omega) (by omega)]
    omega
theorem fre0 (hC : C.ok) : Fre C C.w0 (upL 0 C.S.toNat) := by
  have hS := hC.S
  refine ⟨?_, upL_nodup⟩
  have e : topS (C.w0 1) = 0 := by unfold Cf.w0; rw [if_pos rfl, topS_put (by omega) (by omega)]
  rw [e]
  have key : ∀ (n : Nat) (i : Int), 0 ≤ i → i + n = C.S → Chn C C.w0 (if i = C.S then -1 else i) (upL i n) := by
    intro n
    induction n with
    | zero => intro i _ h; rw [if_pos (by omega)]; rfl
    | succ n ih =>
      intro i h0 h
      rw [if_neg (by omega)]
      refine ⟨rfl, h0, by omega, ?_⟩
      rw [w0_link hC h0 (by omega)]
      have := ih (i + 1) (by omega) (by omega)
      by_cases q : i = C.S - 1
      · rw [if_pos (by omega)] at this; rw [if_pos q]; exact this
      · rw [if_neg (by omega)] at this; rw [if_neg q]; exact this
  have := key C.S.toNat 0 (by omega) (by omega)
  rwa [if_neg (by omega)] at this
end Go.Fl
namespace Go.Fl
open Go
set_option linter.unusedVariables false
set_option linter.unusedSimpArgs false
variable {N : Nm} {A B : Ar} {σ : Mem} {K : Value → Mem → Prop} {C : Cf} {who : Int}
theorem Alo.congr {o u w w' : Int → Int} {nx : Int} (h : Alo C o u nx w) (h1 : ∀ c, 0 ≤ c → c ≤ 3 → w' (2 + c) = w (2 + c)) (h2 : ∀ j, 0 ≤ j → j < C.C → w' (C.chunk j) = w (C.chunk j)) : Alo C o u nx w' := by
  have hb := h.bd
  refine ⟨h.bd, fun c c0 c3 => by rw [h1 c c0 c3]; exact h.op c c0 c3, fun c c0 c3 hc => ?_, fun j j0 j1 => by rw [h2 j j0 (by omega)]; exact h.old j j0 j1, fun j j0 j1 => by rw [h2 j (by omega) j1]; exact h.new j j0 j1⟩
  have := h.op c c0 c3
  rw [h2 _ hc (by omega)]; exact h.cls c c0 c3 hc
theorem Fre.congr {F : List Int} {w w' : Int → Int} (h : Fre C w F) (h1 : w' 1 = w 1) (h2 : ∀ s, 0 ≤ s → s < C.S → w' (C.slot s + 1) = w (C.slot s + 1)) : Fre C w' F :=
  ⟨by rw [h1]; exact h.c.congr fun s hs => by have := h.c.mem s hs; rw [h2 s this.1 this.2], h.nd⟩
structure Aw (C : Cf) (F : List Int) (o u lv : Int → Int) (nx : Int) (w : Int → Int) : Prop where
  fre : Fre C w F
  alo : Alo C o u nx w
  live : ∀ j, 0 ≤ j → j < C.C → w (C.chunk j + 1) = lv j
  nil : ∀ j i, 0 ≤ j → j < C.C → u j ≤ i → i < C.W → w (C.base j + i) = 0
theorem base_ge (hC : C.ok) {j i : Int} (j0 : 0 ≤ j) (j1 : j < C.C) (i0 : 0 ≤ i) : 6 + C.T + 2 * C.S + 3 * C.C ≤ C.base j + i := by
  have := mulW hC j0 (by have := hC.C; omega)
  unfold Cf.base; omega
section
variable {F : List Int} {o u lv w w' : Int → Int} {nx : Int}
theorem Aw.keep (hC : C.ok) (h : Aw C F o u lv nx w) (h1 : ∀ a, a = 1 ∨ (2 ≤ a ∧ a < 6) ∨ (∃ s, 0 ≤ s ∧ s < C.S ∧ a = C.slot s + 1) ∨ (∃ j, 0 ≤ j ∧ j < C.C ∧ (a = C.chunk j ∨ a = C.chunk j + 1)) ∨ (∃ j i, 0 ≤ j ∧ j < C.C ∧ u j ≤ i ∧ i < C.W ∧ a = C.base j + i) → w' a = w a) : Aw C F o u lv nx w' :=
  ⟨h.fre.congr (h1 1 (.inl rfl)) fun s s0 s1 => h1 _ (.inr (.inr (.inl ⟨s, s0, s1, rfl⟩))),
   h.alo.congr (fun c c0 c3 => h1 _ (.inr (.inl ⟨by omega, by omega⟩))) fun j j0 j1 => h1 _ (.inr (.inr (.inr (.inl ⟨j, j0, j1, .inl rfl⟩)))),
   fun j j0 j1 => by rw [h1 _ (.inr (.inr (.inr (.inl ⟨j, j0, j1, .inr rfl⟩))))]; exact h.live j j0 j1,
   fun j i j0 j1 i0 i1 => by rw [h1 _ (.inr (.inr (.inr (.inr ⟨j, i, j0, j1, i0, i1, rfl⟩))))]; exact h.nil j i j0 j1 i0 i1⟩
theorem Aw.u0 (h : Aw C F o u lv nx w) {j : Int} (j0 : 0 ≤ j) (j1 : j < C.C) : 0 ≤ u j := by
  by_cases e : j < nx
  · exact (h.alo.old j j0 e).2.2.1
  · rw [(h.alo.new j (by omega) j1).2]; exact Int.le_refl 0
theorem Aw.lives (hC : C.ok) (h : Aw C F o u lv nx w) {k v : Int} (k0 : 0 ≤ k) (k1 : k < C.C) : Aw C F o u (upd lv k v) nx (upd w (C.chunk k + 1) v) := by
  have hT := hC.T
  have hS := hC.S
  have e : C.chunk k = 6 + C.T + 2 * C.S + 3 * k := rfl
  have n1 : ∀ s, s < C.S → C.slot s + 1 ≠ C.chunk k + 1 := fun s s1 => by
    have : C.slot s = 6 + C.T + 2 * s := rfl
    omega
  have n2 : ∀ j, C.chunk j ≠ C.chunk k + 1 := fun j => by
    have : C.chunk j = 6 + C.T + 2 * C.S + 3 * j := rfl
    omega
  refine ⟨h.fre.congr (upd_ne _ _ (by omega)) fun s s0 s1 => upd_ne _ _ (n1 s s1), h.alo.congr (fun c c0 c3 => upd_ne _ _ (by omega)) fun j j0 j1 => upd_ne _ _ (n2 j), fun j j0 j1 => ?_, fun j i j0 j1 i0 i1 => ?_⟩
  · by_cases q : j = k
    · subst q; rw [upd_same, upd_same]
    · have n3 : C.chunk j + 1 ≠ C.chunk k + 1 := by
        have : C.chunk j = 6 + C.T + 2 * C.S + 3 * j := rfl
        omega
      rw [upd_ne _ _ q, upd_ne _ _ n3]
      exact h.live j j0 j1
  · have hb := base_ge hC j0 j1 (i := i) (by have := h.u0 j0 j1; omega)
    rw [upd_ne _ _ (by omega)]; exact h.nil j i j0 j1 i0 i1
structure Rs (C : Cf) (F : List Int) (u lv : Int → Int) (w : Int → Int) : Prop where
  fre : Fre C w F
  live : ∀ j, 0 ≤ j → j < C.C → w (C.chunk j + 1) = lv j
  nil : ∀ j i, 0 ≤ j → j < C.C → u j ≤ i → i < C.W → w (C.base j + i) = 0
theorem Aw.rs (h : Aw C F o u lv nx w) : Rs C F u lv w := ⟨h.fre, h.live, h.nil⟩
theorem Rs.aw {u' : Int → Int} (h : Rs C F u lv w) (ha : Alo C o u' nx w) (hu : ∀ j, u j ≤ u' j) : Aw C F o u' lv nx w :=
  ⟨h.fre, ha, h.live, fun j i j0 j1 i0 i1 => h.nil j i j0 j1 (by have := hu j; omega) i1⟩
theorem Rs.go (hC : C.ok) (h : Rs C F u lv A.w) (hu : ∀ j, 0 ≤ j → j < C.C → 0 ≤ u j) {p : Pl} {r : Bool × Pl × Ar} {a : Int} (hf : p.fit C) (g : Go1 C A p r a) : Rs C F u lv r.2.2.w := by
  have hT := hC.T
  have hS := hC.S
  have hCC := hC.C
  have hc := hf.cls
  have hj := hf.at'
  have e : C.chunk p.at' = 6 + C.T + 2 * C.S + 3 * p.at' := rfl
  have ne : ∀ i, i ≠ 2 + p.cls → i ≠ C.chunk p.at' → r.2.2.w i = A.w i := fun i h1 h2 => g.w i (by rcases g.wh with q | q <;> rw [q] <;> assumption)
  refine ⟨h.fre.congr (ne _ (by omega) (by omega)) fun s s0 s1 => ne _ ?_ ?_, fun j j0 j1 => ?_, fun j i j0 j1 i0 i1 => ?_⟩
  · have : C.slot s = 6 + C.T + 2 * s := rfl
    omega
  · have : C.slot s = 6 + C.T + 2 * s := rfl
    omega
  · have q : C.chunk j = 6 + C.T + 2 * C.S + 3 * j := rfl
    rw [ne _ (by omega) (by omega)]; exact h.live j j0 j1
  · have hb := base_ge hC j0 j1 (i := i) (by have := hu j j0 j1; omega)
    rw [ne _ (by omega) (by omega)]; exact h.nil j i j0 j1 i0 i1
end
end Go.Fl
namespace Go.Fl
open Go
set_option linter.unusedVariables false
set_option linter.unusedSimpArgs false
variable {N : Nm} {A B : Ar} {σ : Mem} {K : Value → Mem → Prop} {C : Cf} {who : Int}
structure Bg where
  F : List Int
  o : Int → Int
  u : Int → Int
  lv : Int → Int
  nx : Int
end Go.Fl
namespace Go.Fl
open Go
set_option linter.unusedVariables false
set_option linter.unusedSimpArgs false
variable {N : Nm} {A B : Ar} {σ : Mem} {K : Value → Mem → Prop} {C : Cf} {who : Int}
def Bg.aw (b : Bg) (C : Cf) (w : Int → Int) : Prop := Aw C b.F b.o b.u b.lv b.nx w
end Go.Fl
namespace Go.Fl
open Go
set_option linter.unusedVariables false
set_option linter.unusedSimpArgs false
variable {N : Nm} {A B : Ar} {σ : Mem} {K : Value → Mem → Prop} {C : Cf} {who : Int}
def Bg.fr (C : Cf) : Bg := ⟨upL 0 C.S.toNat, fun _ => -1, fun _ => 0, fun _ => 0, 0⟩
theorem w0_high (hC : C.ok) {a : Int} (h : C.chunk 0 ≤ a) : C.w0 a = 0 := by
  have := hC.T; have := hC.S
  unfold Cf.chunk at h
  unfold Cf.w0 Cf.fr Cf.slot
  rw [if_neg (by omega), if_neg (by omega), if_neg (by omega)]
theorem fr_aw (hC : C.ok) : (Bg.fr C).aw C C.w0 := by
  have hT := hC.T
  have hS := hC.S
  have hCC := hC.C
  have hW := hC.W
  have hb0 : C.base 0 = 6 + C.T + 2 * C.S + 3 * C.C := by unfold Cf.base; omega
  have hc0 : C.chunk 0 = 6 + C.T + 2 * C.S := by unfold Cf.chunk; omega
  refine ⟨fre0 hC, ⟨⟨(by decide : (0 : Int) ≤ 0), by show (0 : Int) ≤ C.C; omega⟩, fun c c0 c3 => ⟨w0_open hC c0 c3, (by decide : (-1 : Int) ≤ -1), (by decide : (-1 : Int) < 0)⟩, fun c _ _ h => absurd h (by decide : ¬ (0 : Int) ≤ -1), fun j j0 j1 => ?_, fun j j0 j1 => ⟨w0_chunk hC j0, rfl⟩⟩, fun j j0 j1 => ?_, fun j i j0 j1 i0 i1 => ?_⟩
  · have : j < 0 := j1
    omega
  · exact w0_high hC (by unfold Cf.chunk at *; omega)
  · have : (0 : Int) ≤ i := i0
    have := mulW hC j0 (by omega)
    exact w0_high hC (by rw [hc0]; unfold Cf.base; omega)
theorem Frsh.pa (hC : C.ok) (h : Frsh N C A) : Pa C A (2 * C.S + 2) := by
  have hl := len_bd hC
  have hCC := hC.C
  refine ⟨h.ok, ?_, fun c c0 c3 => ?_⟩
  · rw [h.n]; omega
  · rw [h.w, w0_open hC c0 c3]; omega
theorem Frsh.aw (hC : C.ok) (h : Frsh N C A) : (Bg.fr C).aw C A.w := by rw [h.w]; exact fr_aw hC
end Go.Fl
namespace Go.Fl
open Go
set_option linter.unusedVariables false
set_option linter.unusedSimpArgs false
variable {N : Nm} {A B : Ar} {σ : Mem} {K : Value → Mem → Prop} {C : Cf} {who : Int}
structure Do where
  n : Int
  ws : Int
  z : Int
  own : Bool
  j : Int
  i : Int
def Do.s (d : Do) : Int := hdSl d.n
def Do.ge (d : Do) : Int := hdGe d.n
def Do.a (d : Do) (C : Cf) : Int := C.base d.j + d.i
def Do.v (d : Do) (C : Cf) : Int := putSlot 4 (d.a C) d.ge (slV d.ws + 1)
def Do.nx (d : Do) (C : Cf) : Int := if C.G ≤ d.ge then putSlot 3 0 d.ge 0 else putSlot 0 0 (d.ge + 1) 0
structure Do.ok (d : Do) (C : Cf) (b : Bg) (w : Int → Int) : Prop where
  n : 0 ≤ d.n ∧ d.n < 18446744073709551616
  hok : hdOk d.n = true
  s : 0 ≤ d.s ∧ d.s < C.S
  sF : d.s ∉ b.F
  ge : 0 ≤ d.ge ∧ d.ge ≤ 65535
  ws : w (C.slot d.s) = d.ws
  st : slS d.ws = 1 ∨ slS d.ws = 2
  sa : slA d.ws = d.a C
  sg : slG d.ws = d.ge
  hd : hdS (w (d.a C)) = d.z ∧ hdO (w (d.a C)) = d.own
  cl : 0 ≤ classOf d.z
  j : 0 ≤ d.j ∧ d.j < C.C
  i : 0 ≤ d.i ∧ d.i + roomOf (classOf d.z) ≤ b.u d.j
  z : d.z + 1 ≤ roomOf (classOf d.z)
  lv : roomOf (classOf d.z) ≤ b.lv d.j
def Do.fr (d : Do) (C : Cf) (w0 w : Int → Int) : Prop := ∀ a, a ≠ C.slot d.s → a ≠ 1 → a ≠ C.slot d.s + 1 → a ≠ C.chunk d.j + 1 → ¬ (d.a C < a ∧ a ≤ d.a C + d.z) → w a = w0 a
theorem sl_put' {st ad ge ve : Int} (h1 : 0 ≤ st ∧ st ≤ 7) (h2 : 0 ≤ ad ∧ ad ≤ 1048575) (h3 : 0 ≤ ge ∧ ge ≤ 65535) :
    slS (putSlot st ad ge ve) = st ∧ slA (putSlot st ad ge ve) = ad ∧ slG (putSlot st ad ge ve) = ge := by
  have e : putSlot st ad ge ve = putSlot st ad ge (cl ve 4194303) := by
    unfold putSlot; rw [cl_in (n := cl ve 4194303) (cl_nn (by decide)) cl_le]
  have := sl_put (ve := cl ve 4194303) h1 h2 h3 ⟨cl_nn (by decide), cl_le⟩
  rw [e]; exact ⟨this.1, this.2.1, this.2.2.1⟩
end Go.Fl
namespace Go.Fl
open Go
set_option linter.unusedVariables false
set_option linter.unusedSimpArgs false
variable {N : Nm} {A B : Ar} {σ : Mem} {K : Value → Mem → Prop} {C : Cf} {who : Int}
theorem Bg.aw.pa {b : Bg} {bb : Int} (hC : C.ok) (h : b.aw C A.w) (ok : A.ok bb) (hn : C.len ≤ A.n) : Pa C A bb := by
  refine ⟨ok, hn, fun c c0 c3 => ?_⟩
  have := h.alo.op c c0 c3
  have := h.alo.bd
  omega
def NoDrop (C : Cf) (w : Int → Int) (n : Int) (own : Bool) : Prop :=
  (hdOk n = false ∨ C.S ≤ hdSl n) ∨ (hdOk n = true ∧ hdSl n < C.S) ∧ (¬ lives (w (C.slot (hdSl n))) (hdGe n) ∨ lives (w (C.slot (hdSl n))) (hdGe n) ∧ slA (w (C.slot (hdSl n))) < C.len ∧ hdO (w (slA (w (C.slot (hdSl n))))) ≠ own)
theorem ok_mono {bb b' : Int} (h : A.ok bb) (hb : bb ≤ b') : A.ok b' := ⟨h.w, ⟨h.s.1, by have := h.s.2; omega⟩, h.t⟩
end Go.Fl
namespace Go.Fl
open Go
set_option linter.unusedVariables false
set_option linter.unusedSimpArgs false
variable {N : Nm} {A B : Ar} {σ : Mem} {K : Value → Mem → Prop} {C : Cf} {who : Int}
theorem Ak.new_fit (hC : C.ok) {kd n ix v old : Int} {o : Bool} (hn : 0 ≤ n ∧ n < 18446744073709551616) (hb : (A.n : Int) ≤ 200000000) : (Ak.new kd n ix v old o).fit C A := by
  have hS := hC.S
  exact ⟨⟨⟨Int.le_refl 0, (by decide : (0 : Int) ≤ 6)⟩, hn, ⟨Int.le_refl 0, by show (0 : Int) < C.S; omega⟩, ⟨Int.le_refl 0, (by decide : (0 : Int) < 18446744073709551616)⟩, ⟨Int.le_refl 0, (by decide : (0 : Int) < 18446744073709551616)⟩, fun e => (by cases e), fun e => (by rcases e with e | e <;> cases e), hb⟩, fun e => (by cases e)⟩
def NaI (C : Cf) (A0 : Ar) (m0 : Ak) (k : Int) (m : Ak) (A : Ar) : Prop :=
  k = 0 ∧ m = m0 ∧ A = A0 ∨ k = 1 ∧ A.w = A0.w ∧ A.s = A0.s + 1 ∧ A.n = A0.n ∧ (∀ bb, A0.ok bb → A.ok (bb + 1)) ∧ m.a.pc = 1 ∧ m.a.n = m0.a.n ∧ m.a.own = m0.a.own ∧ m.a.w = A0.w (C.slot (hdSl m0.a.n)) ∧ (m.a.hs = hdSl m0.a.n ∧ hdSl m0.a.n < C.S) ∧ slA m.a.w < C.len ∧ hdO (A0.w (slA m.a.w)) ≠ m0.a.own ∧ m.a.cell = 0
structure NaD (A0 : Ar) (m : Ak) (A : Ar) : Prop where
  e : m.a.oE = 3 ∧ m.a.oH = 0 ∧ m.a.oV = 0
  s : A0.s ≤ m.a.oS ∧ m.a.oS = A.s ∧ A.s ≤ A0.s + 2
  w : A.w = A0.w
  n : A.n = A0.n
  ok : ∀ bb, A0.ok bb → A.ok (bb + 2)
theorem NaI.step (hC : C.ok) {A0 : Ar} {k bb kd n ix v old : Int} {own : Bool} {m : Ak} (h : NaI C A0 (Ak.new kd n ix v old own) k m A) (hn : NoDrop C A0.w n own) (h0 : 0 ≤ n ∧ n < 18446744073709551616) (ok : A0.ok bb) (hb : bb < 4611686018427387904) (hl : C.len ≤ A0.n) (hb2 : (A0.n : Int) ≤ 200000000) :
    m.fit C A ∧ (A.ok (bb + 1) ∧ C.len ≤ A.n ∧ ((m.step C who A).2.2 = A ∨ ∃ a, (m.step C who A).2.2 = (A.by who).load a ∧ 0 ≤ a ∧ a < C.len)) ∧ (((m.step C who A).1 = false ∧ NaI C A0 (Ak.new kd n ix v old own) (k + 1) (m.step C who A).2.1 (m.step C who A).2.2) ∨ ((m.step C who A).1 = true ∧ NaD A0 (m.step C who A).2.1 (m.step C who A).2.2)) := by
  rcases h with ⟨rfl, rfl, rfl⟩ | ⟨rfl, ew, es, en, eo, h1, h2, h3, h4, h5, h6, h7, h8⟩
  · have hT := hC.T
    have hS := hC.S
    have hCC := hC.C
    have hll := len_bd hC
    have hsb : hdSl n < C.S → 0 ≤ C.slot (hdSl n) ∧ C.slot (hdSl n) < C.len := fun q => by have := hdSl_bd h0.1; unfold Cf.slot; unfold Cf.chunk at hll; omega
    refine ⟨Ak.new_fit hC h0 hb2, ?_⟩
    suffices H : _ ∧ _ from ⟨⟨ok_mono ok (by omega), hl, H.1⟩, H.2⟩
    have p0 : (Ak.new kd n ix v old own).a.pc = 0 := rfl
    have hb := hdSl_bd h0.1
    have a1 := aft_load (who := who) (A := A) (a := C.slot (hdSl n)) ok (by omega)
    have e0 : (Ak.new kd n ix v old own).step C who A = (((Ak.new kd n ix v old own).a.step C who A).1, ⟨((Ak.new kd n ix v old own).a.step C who A).2.1, (Ak.new kd n ix v old own).h⟩, ((Ak.new kd n ix v old own).a.step C who A).2.2) := by
      unfold Ak.step; rw [if_neg (by rw [p0]; decide), if_neg (by rw [p0]; decide)]
    rw [e0]
    by_cases c : hdOk n = false ∨ C.S ≤ hdSl n
    · have e : (Ak.new kd n ix v old own).a.step C who A = (true, ({ (Ak.new kd n ix v old own).a with hs := hdSl n, hg := hdGe n } : Ac).fin 3 0 A.s, A) := by
        unfold Ac.step; rw [if_pos p0, if_pos (show hdOk (Ak.new kd n ix v old own).a.n = false ∨ C.S ≤ hdSl (Ak.new kd n ix v old own).a.n from c)]; rfl
      rw [e]
      refine ⟨.inl rfl, ?_⟩
      exact .inr ⟨rfl, ⟨rfl, rfl, rfl⟩, ⟨Int.le_refl _, rfl, by dsimp only; omega⟩, rfl, rfl, fun b2 o2 => ok_mono o2 (by omega)⟩
    · rcases hn with hn | ⟨hn1, hn⟩
      · exact absurd hn c
      rcases hn with hn | ⟨hn, h8, h9⟩
      · have e : (Ak.new kd n ix v old own).a.step C who A = (true, ({ (Ak.new kd n ix v old own).a with hs := hdSl n, hg := hdGe n, w := A.w (C.slot (hdSl n)), seen := ((A.by who).load (C.slot (hdSl n))).s, pc := 1 } : Ac).fin 3 0 ((A.by who).load (C.slot (hdSl n))).s, (A.by who).load (C.slot (hdSl n))) := by
          unfold Ac.step; rw [if_pos p0, if_neg (show ¬ (hdOk (Ak.new kd n ix v old own).a.n = false ∨ C.S ≤ hdSl (Ak.new kd n ix v old own).a.n) from c), if_neg (show ¬ lives (A.w (C.slot (hdSl (Ak.new kd n ix v old own).a.n))) (hdGe (Ak.new kd n ix v old own).a.n) from hn)]; rfl
        rw [e]
        refine ⟨.inr ⟨_, rfl, hsb hn1.2⟩, ?_⟩
        exact .inr ⟨rfl, ⟨rfl, rfl, rfl⟩, ⟨by have := a1.s; show A.s ≤ ((A.by who).load (C.slot (hdSl n))).s; omega, rfl, by have := a1.s; show ((A.by who).load (C.slot (hdSl n))).s ≤ _; omega⟩, rfl, rfl, fun b2 o2 => ok_mono (a1.ok (by decide) o2 o2.w) (by omega)⟩
      · have e : (Ak.new kd n ix v old own).a.step C who A = (false, { (Ak.new kd n ix v old own).a with hs := hdSl n, hg := hdGe n, w := A.w (C.slot (hdSl n)), seen := ((A.by who).load (C.slot (hdSl n))).s, pc := 1 }, (A.by who).load (C.slot (hdSl n))) := by
          unfold Ac.step; rw [if_pos p0, if_neg (show ¬ (hdOk (Ak.new kd n ix v old own).a.n = false ∨ C.S ≤ hdSl (Ak.new kd n ix v old own).a.n) from c), if_pos (show lives (A.w (C.slot (hdSl (Ak.new kd n ix v old own).a.n))) (hdGe (Ak.new kd n ix v old own).a.n) from hn)]; rfl
        rw [e]
        refine ⟨.inr ⟨_, rfl, hsb hn1.2⟩, ?_⟩
        exact .inl ⟨rfl, .inr ⟨rfl, rfl, a1.s, rfl, fun b2 o2 => a1.ok (by decide) o2 o2.w, rfl, rfl, rfl, rfl, ⟨rfl, hn1.2⟩, h8, h9, rfl⟩⟩
  · have ok' := eo bb ok
    have hb' := hdSl_bd h0.1
    have hnn : (Ak.new kd n ix v old own).a.n = n := rfl
    have hoo : (Ak.new kd n ix v old own).a.own = own := rfl
    rw [hnn] at h2 h4 h5
    rw [hoo] at h3 h7
    refine ⟨⟨⟨by omega, by rw [h2]; exact h0, by rw [h5.1]; exact ⟨hb'.1.1, h5.2⟩, by rw [h4]; exact ok.w _, by rw [h8]; decide, fun _ => by omega, fun e => by omega, by omega⟩, fun e => by omega⟩, ?_⟩
    suffices H : _ ∧ _ from ⟨⟨ok', by omega, H.1⟩, H.2⟩
    have a1 := aft_load (who := who) (A := A) (a := slA m.a.w) ok' (by omega)
    have e0 : m.step C who A = ((m.a.step C who A).1, ⟨(m.a.step C who A).2.1, m.h⟩, (m.a.step C who A).2.2) := by
      unfold Ak.step; rw [if_neg (by omega), if_neg (by omega)]
    have e : m.a.step C who A = (true, ({ m.a with size := hdS (A.w (slA m.a.w)), pc := 2 } : Ac).fin 3 0 ((A.by who).load (slA m.a.w)).s, (A.by who).load (slA m.a.w)) := by
      unfold Ac.step; rw [if_neg (by omega), if_pos h1, if_pos (by rw [h3, ew]; exact h7)]
    rw [e0, e]
    refine ⟨.inr ⟨_, rfl, (slA_bd _).1, h6⟩, ?_⟩
    refine .inr ⟨rfl, ⟨rfl, rfl, rfl⟩, ⟨by have := a1.s; show A0.s ≤ ((A.by who).load (slA m.a.w)).s; omega, rfl, by have := a1.s; show ((A.by who).load (slA m.a.w)).s ≤ _; omega⟩, ew, en, fun b2 o2 => ?_⟩
    rw [show b2 + 2 = b2 + 1 + 1 by omega]
    exact a1.ok (by decide) (eo b2 o2) (eo b2 o2).w
theorem c_AccNo (hN : N.ok) (hC : C.ok) (hA : isA N A σ) {n bb kd ix v old : Int} {own : Bool} (h0 : 0 ≤ n ∧ n < 18446744073709551616) (ok : A.ok bb) (hb : bb < 4611686018427387904) (hl : C.len ≤ A.n) (hb2 : (A.n : Int) ≤ 200000000) (hn : NoDrop C A.w n own)
    (hk : ∀ oS A' τ, (A.s ≤ oS ∧ oS = A'.s ∧ A'.s ≤ A.s + 2) → A'.w = A.w → A'.n = A.n → A'.ok (bb + 2) → isA N A' τ → Keep N.l σ τ → K (.agg #[.int .i64 3, .int .u64 0, .int .i64 0, .int .i64 oS]) τ) :
    s_law10_Do [N.env C who, .agg #[.int .i64 kd, .int .u64 n, .int .i64 ix, .int .i64 v, .int .i64 old], .bool own] K σ := by
  refine c_Acc hN hC hA (NaI C A (Ak.new kd n ix v old own)) (NaD A) (.inl ⟨rfl, rfl, rfl⟩) (fun k m A' k0 k1 h => ?_) (fun m A' h => ?_) (fun m A' τ hD hA' hK => ?_)
  · obtain ⟨q1, q2, q3⟩ := h.step (who := who) hC hn h0 ok hb hl hb2
    refine ⟨q1, q2.1.w, q2.2.1, ?_⟩
    rcases q3 with ⟨d, h'⟩ | ⟨d, h'⟩
    · rw [if_neg (by rw [d]; decide)]; exact h'
    · rw [if_pos d]; exact h'
  · rcases h with ⟨h, _⟩ | ⟨h, _⟩ <;> omega
  · rw [hD.e.1, hD.e.2.1, hD.e.2.2]
    exact hk m.a.oS A' τ hD.s hD.w hD.n (hD.ok bb ok) hA' hK
end Go.Fl
namespace Go.Fl
open Go
set_option linter.unusedVariables false
set_option linter.unusedSimpArgs false
variable {N : Nm} {A B : Ar} {σ : Mem} {K : Value → Mem → Prop} {C : Cf} {who : Int}
theorem Do.ok.keep {d : Do} {b b' : Bg} {w w' : Int → Int} (h : d.ok C b w) (sF : d.s ∉ b'.F) (h1 : w' (C.slot d.s) = w (C.slot d.s)) (h2 : w' (d.a C) = w (d.a C)) (hu : b.u d.j ≤ b'.u d.j) (hlv : roomOf (classOf d.z) ≤ b'.lv d.j) : d.ok C b' w' :=
  ⟨h.n, h.hok, h.s, sF, h.ge, by rw [h1]; exact h.ws, h.st, h.sa, h.sg, by rw [h2]; exact h.hd, h.cl, h.j, ⟨h.i.1, by have := h.i.2; omega⟩, h.z, hlv⟩
theorem lives_not {st ad ge ve g : Int} (h0 : st = 0 ∨ st = 3) (h2 : 0 ≤ ad ∧ ad ≤ 1048575) (h3 : 0 ≤ ge ∧ ge ≤ 65535) : ¬ lives (putSlot st ad ge ve) g := by
  have := sl_put' (st := st) (ad := ad) (ge := ge) (ve := ve) (by omega) h2 h3
  unfold lives
  rw [this.1]
  rintro ⟨h, _⟩
  omega
end Go.Fl
namespace Go.Fl
open Go
set_option linter.unusedVariables false
set_option linter.unusedSimpArgs false
variable {N : Nm} {A B : Ar} {σ : Mem} {K : Value → Mem → Prop} {C : Cf} {who : Int}
theorem want5 {l : List Value} (h : FlatL [some .i64, some .u64, some .i64, some .i64, some .i64] l) : ∃ a b c d e, l = [.int .i64 a, .int .u64 b, .int .i64 c, .int .i64 d, .int .i64 e] ∧ 0 ≤ b ∧ b < 18446744073709551616 := by
  cases h with
  | cons h1 h => cases h with
    | cons h2 h => cases h with
      | cons h3 h => cases h with
        | cons h4 h => cases h with
          | cons h5 h => cases h with
            | nil =>
              obtain ⟨a, rfl, _⟩ := h1; obtain ⟨b, rfl, w⟩ := h2; obtain ⟨c, rfl, _⟩ := h3; obtain ⟨d, rfl, _⟩ := h4; obtain ⟨e, rfl, _⟩ := h5
              have : 0 ≤ b ∧ b ≤ 18446744073709551615 := by simpa [Lit.wf, IntKind.min, IntKind.max, IntKind.signed, IntKind.bits] using w
              exact ⟨a, b, c, d, e, rfl, by omega, by omega⟩
theorem law_AccessNone (σ : Mem) (a0 : Array Value) (w0 : FlatL [some .i64, some .u64, some .i64, some .i64, some .i64] a0.toList) :
    s_law10_AccessNone [.agg a0] (fun v _ => v = .bool true) σ := by
  obtain ⟨kd, n, ix, v, old, h0, n0, n1⟩ := want5 w0
  have e0 : a0 = #[.int .i64 kd, .int .u64 n, .int .i64 ix, .int .i64 v, .int .i64 old] := by apply Array.ext'; simpa using h0
  subst e0
  have g : gBox 5 [.agg #[.int .i64 kd, .int .u64 n, .int .i64 ix, .int .i64 v, .int .i64 old]] [] = some [.int .i64 kd, .int .u64 n, .int .i64 ix, .int .i64 v, .int .i64 old] := rfl
  have g0 : ∀ {k : Nat} {x : Int}, gStore 1 [.pointer (some ⟨k, 0, some 0⟩), .int .i64 x] [.int .i64 kd, .int .u64 n, .int .i64 ix, .int .i64 v, .int .i64 old] = some [.int .i64 x, .int .u64 n, .int .i64 ix, .int .i64 v, .int .i64 old] := fun {_ _} => rfl
  have s5 : ∀ x y z u w : Value, sub [x, y, z, u, w] 0 5 true = some (.agg #[x, y, z, u, w]) := fun _ _ _ _ _ => rfl
  have f0 : ∀ (x y z w : Value) (K : Value → Prop), xF (fFldV 0 1 false) [.agg #[x, y, z, w]] K = K x := fun _ _ _ _ K => nr rfl
  have gU : ∀ {k : Nat} {x y z w : Int}, gStore 4 [.pointer (some ⟨k, 0, some 0⟩), .agg #[.int .i64 x, .int .u64 y, .int .i64 z, .int .i64 w]] [.int .i64 0, .int .u64 0, .int .i64 0, .int .i64 0] = some [.int .i64 x, .int .u64 y, .int .i64 z, .int .i64 w] := fun {_ _ _ _ _} => rfl
  simp only [s_law10_AccessNone, w_law10_AccessNone, g, ruS, ruL, ruE, Nat.reduceAdd, reduceIte, Int.reduceLT, Int.reduceLE, Int.reduceEq, Int.reduceNeg, Int.reduceAdd, Int.reduceSub, Nat.reduceLeDiff, Nat.reduceLT]
  have hC : (cA 1 1 1 17).ok := cA_ok (by omega) (by omega) (by omega) (by omega)
  refine c_Arena (C := cA 1 1 1 17) hC rfl rfl rfl fun N A τ hN hF hA hE hfr => ?_
  have hP := hF.pa hC
  have hnn := hF.n
  have hln := len_bd hC
  have hw0 : A.w ((cA 1 1 1 17).slot 0) = putSlot 0 0 1 0 := by rw [hF.w]; exact (by decide : (cA 1 1 1 17).w0 ((cA 1 1 1 17).slot 0) = putSlot 0 0 1 0)
  have hno : NoDrop (cA 1 1 1 17) A.w n false := by
    by_cases c : hdOk n = false ∨ (cA 1 1 1 17).S ≤ hdSl n
    · exact .inl c
    · have c1 : hdOk n = true := by cases e : hdOk n; exact absurd (.inl e) c; rfl
      have c2 : hdSl n < (cA 1 1 1 17).S := by omega
      refine .inr ⟨⟨c1, c2⟩, .inl ?_⟩
      have hb := hdSl_bd n0
      have hS : (cA 1 1 1 17).S = 1 := rfl
      rw [show hdSl n = 0 by omega, hw0]; exact lives_not (.inl rfl) (by decide) (by decide)
  have tm := tmodN kd (show (0 : Int) < 3 by decide)
  simp only [c_awake10, gStoreE, w_law10_AccessNone_j1, w_law10_AccessNone_j1b, xRem (show (3 : Int) ≠ 0 by decide), ruS, ruL, ruE, Nat.reduceAdd, reduceIte, Int.reduceLT, Int.reduceLE, Int.reduceEq, Int.reduceNeg, Int.reduceAdd, Int.reduceSub, Nat.reduceLeDiff, Nat.reduceLT]
  obtain ⟨pk1, k0, k1⟩ := pickN kd (show (0 : Int) < 3 by decide) (by decide)
  simp only [pk1, ruS, ruL, ruE, Nat.reduceAdd, reduceIte, Int.reduceLT, Int.reduceLE, Int.reduceEq, Int.reduceNeg, Int.reduceAdd, Int.reduceSub, Nat.reduceLeDiff, Nat.reduceLT]
  generalize (kd.tmod 3 + 3).tmod 3 = k at *
  rw [IntWalk.i64_in (1 + k) (by omega)]
  simp only [g0, s5, ruS, ruL, ruE, Nat.reduceAdd, reduceIte, Int.reduceLT, Int.reduceLE, Int.reduceEq, Int.reduceNeg, Int.reduceAdd, Int.reduceSub, Nat.reduceLeDiff, Nat.reduceLT]
  refine c_AccNo hN hC hA ⟨n0, n1⟩ hP.ok (by decide) hP.n (by omega) hno fun oS A' τ' _ _ _ _ hA' _ => ?_
  simp only [gU, ruS, ruL, ruE, Nat.reduceAdd, reduceIte, Int.reduceLT, Int.reduceLE, Int.reduceEq, Int.reduceNeg, Int.reduceAdd, Int.reduceSub, Nat.reduceLeDiff, Nat.reduceLT]
  refine c_AccDoneN ?_
  simp only [f0, ruS, ruL, ruE, Nat.reduceAdd, reduceIte, Int.reduceLT, Int.reduceLE, Int.reduceEq, Int.reduceNeg, Int.reduceAdd, Int.reduceSub, Nat.reduceLeDiff, Nat.reduceLT]
end Go.Fl
