/- What the claim leans on, part 5: own readings of the program's functions, what they come to, laws of them. No condition. -/
import Derived.Test.YtnigcfbenalehaaZMoveWrites4
namespace Go.Fl
open Go
set_option linter.unusedVariables false
set_option linter.unusedSimpArgs false
variable {N : Nm} {A B : Ar} {σ : Mem} {K : Value → Mem → Prop} {C : Cf} {who : Int}
def Mo.wp (a : Mo) (x : Option Nat) : Mo := { a with p := x }
structure MOb (N : Nm) (p : Nat) (O : List Nat) (m : Mv) (τ : Mem) : Prop where
 obj : ∃ x, τ.get p = some ⟨(m.a.wp x).l, true⟩ ∧ (m.a.pc = 1 → ∃ q, x = some q ∧ q ∈ O ∧ q ≠ p ∧ τ.get q = some ⟨[] ++ m.t.l ++ [], true⟩)
 own : ∀ i ∈ O, i ∉ N.l
 p : p ∈ O
theorem MOb.ext {p : Nat} {O : List Nat} {m : Mv} {τ : Mem} (h : MOb N p O m σ) (x : Ext σ τ) : MOb N p O m τ := by
 obtain ⟨⟨a, h1, h2⟩, h4, h5⟩ := h
 refine ⟨⟨a, x _ _ h1, fun e => ?_⟩, h4, h5⟩
 obtain ⟨q, q1, q2, q3, q4⟩ := h2 e; exact ⟨q, q1, q2, q3, x _ _ q4⟩
theorem MOb.keep {p : Nat} {O L : List Nat} {m : Mv} {τ : Mem} (h : MOb N p O m σ) (x : Keep L σ τ) (hL : ∀ i ∈ O, i ∉ L) : MOb N p O m τ := by
 obtain ⟨⟨a, h1, h2⟩, h4, h5⟩ := h
 refine ⟨⟨a, x.get h1 (hL p h5), fun e => ?_⟩, h4, h5⟩
 obtain ⟨q, q1, q2, q3, q4⟩ := h2 e; exact ⟨q, q1, q2, q3, x.get q4 (hL q q2)⟩
theorem MOb.out {p : Nat} {O : List Nat} {m : Mv} (h : MOb N p O m σ) : ∃ a : Mo, σ.get p = some ⟨a.l, true⟩ ∧ a.out = m.a.out ∧ a.got = m.a.got ∧ a.sa = m.a.sa ∧ a.sc = m.a.sc := by
 obtain ⟨⟨x, h1, _⟩, _⟩ := h; exact ⟨_, h1, rfl, rfl, rfl, rfl⟩
theorem endm_pc {a : Mo} {e : Int} (h : a.pc ≠ 1) : (a.endm e).pc ≠ 1 := by unfold Mo.endm; dsimp only; split <;> omega
theorem c_Mv_Step (hN : N.ok) (hC : C.ok) (hA : isA N A σ) {p : Nat} {O : List Nat} {m : Mv} (hO : MOb N p O m σ) (hw : ∀ i, 0 ≤ A.w i ∧ A.w i < 18446744073709551616) (hn : C.len ≤ A.n) (hf : m.fit C A)
  (hk : ∀ O' τ, (∀ i ∈ O', i ∈ O ∨ σ.get i = none) → isA N (m.step C who A).2.2 τ → MOb N p O' (m.step C who A).2.1 τ → Keep (O ++ N.l) σ τ → K (.bool (m.step C who A).1) τ) : s_b6 [.pointer (some ⟨p, 0, none⟩), N.env C who] K σ := by
 obtain ⟨⟨x, hp, h3⟩, own, pO⟩ := hO
 have hd := own p pO
 have k1 : ∀ {τ : Mem}, Keep (p :: N.l) σ τ → Keep (O ++ N.l) σ τ := fun k => k.mono fun i hi => by
  rcases List.mem_cons.1 hi with rfl | hi
  ·exact List.mem_append_left _ pO
  ·exact List.mem_append_right _ hi
 have same : ∀ i ∈ O, i ∈ O ∨ σ.get i = none := fun i hi => .inl hi
 have cons : ∀ {q : Nat}, σ.get q = none → ∀ i ∈ q :: O, i ∈ O ∨ σ.get i = none := fun h i hi => by rcases List.mem_cons.1 hi with rfl | hi; exact .inr h; exact .inl hi
 have ownc : ∀ {q : Nat}, q ∉ N.l → ∀ i ∈ q :: O, i ∉ N.l := fun h i hi => by rcases List.mem_cons.1 hi with rfl | hi; exact h; exact own i hi
 have hpc := hf.pc
 unfold Mv.step at hk
 by_cases c0 : m.a.pc = 0
 ·simp only [if_pos c0] at hk
  refine c_Mv0 hN hC hA (a := m.a.wp x) hp hd c0 hn hw hf.hs hf.cl (fun e he τ u1 u2 u3 => ?_) (fun n1 n2 g τ u1 u2 u3 => ?_) (fun n1 n2 g q τ q1 q2 u1 u2 u3 u4 => ?_)
  ·have np : (({ m.a with w := A.w (C.slot m.a.hs) } : Mo).endm e).pc ≠ 1 := endm_pc (by show m.a.pc ≠ 1; omega)
   rcases he with ⟨c, rfl⟩ | ⟨n, ⟨c, rfl⟩ | ⟨n2, c, rfl⟩⟩
   ·rw [if_pos (show slS (A.w (C.slot m.a.hs)) = 4 ∧ slG (A.w (C.slot m.a.hs)) = m.a.hg ∧ slA (A.w (C.slot m.a.hs)) = m.a.addr from c)] at hk
    exact hk O τ same u1 ⟨⟨x, u2, fun q => absurd q np⟩, own, pO⟩ (k1 u3)
   ·rw [if_neg (show ¬ (slS (A.w (C.slot m.a.hs)) = 4 ∧ slG (A.w (C.slot m.a.hs)) = m.a.hg ∧ slA (A.w (C.slot m.a.hs)) = m.a.addr) from n), if_pos (show slS (A.w (C.slot m.a.hs)) ≠ 1 ∨ slG (A.w (C.slot m.a.hs)) ≠ m.a.hg ∨ slA (A.w (C.slot m.a.hs)) ≠ m.a.addr from c)] at hk
    exact hk O τ same u1 ⟨⟨x, u2, fun q => absurd q np⟩, own, pO⟩ (k1 u3)
   ·rw [if_neg (show ¬ (slS (A.w (C.slot m.a.hs)) = 4 ∧ slG (A.w (C.slot m.a.hs)) = m.a.hg ∧ slA (A.w (C.slot m.a.hs)) = m.a.addr) from n), if_neg (show ¬ (slS (A.w (C.slot m.a.hs)) ≠ 1 ∨ slG (A.w (C.slot m.a.hs)) ≠ m.a.hg ∨ slA (A.w (C.slot m.a.hs)) ≠ m.a.addr) from n2),
     if_pos (show 4194302 ≤ slV (A.w (C.slot m.a.hs)) from c)] at hk
    exact hk O τ same u1 ⟨⟨x, u2, fun q => absurd q np⟩, own, pO⟩ (k1 u3)
  ·have n3 : ¬ (slS (A.w (C.slot m.a.hs)) = 4 ∧ slG (A.w (C.slot m.a.hs)) = m.a.hg ∧ slA (A.w (C.slot m.a.hs)) = m.a.addr) := fun q => n1 (.inl (by show slS (A.w (C.slot m.a.hs)) ≠ 1; omega))
   rw [if_neg n3, if_neg (show ¬ (slS (A.w (C.slot m.a.hs)) ≠ 1 ∨ slG (A.w (C.slot m.a.hs)) ≠ m.a.hg ∨ slA (A.w (C.slot m.a.hs)) ≠ m.a.addr) from n1), if_neg (show ¬ 4194302 ≤ slV (A.w (C.slot m.a.hs)) from n2), if_pos (show m.a.got = true from g)] at hk
   exact hk O τ same u1 ⟨⟨x, u2, fun q => by cases q⟩, own, pO⟩ (k1 u3)
  ·have n3 : ¬ (slS (A.w (C.slot m.a.hs)) = 4 ∧ slG (A.w (C.slot m.a.hs)) = m.a.hg ∧ slA (A.w (C.slot m.a.hs)) = m.a.addr) := fun q => n1 (.inl (by show slS (A.w (C.slot m.a.hs)) ≠ 1; omega))
   rw [if_neg n3, if_neg (show ¬ (slS (A.w (C.slot m.a.hs)) ≠ 1 ∨ slG (A.w (C.slot m.a.hs)) ≠ m.a.hg ∨ slA (A.w (C.slot m.a.hs)) ≠ m.a.addr) from n1), if_neg (show ¬ 4194302 ≤ slV (A.w (C.slot m.a.hs)) from n2), if_neg (show ¬ m.a.got = true by rw [show m.a.got = false from g]; decide)] at hk
   exact hk (q :: O) τ (cons q1) u1 ⟨⟨some q, u2, fun _ => ⟨q, rfl, List.mem_cons_self .., q2, by rw [List.nil_append, List.append_nil]; exact u3⟩⟩, ownc (hA.new q1), List.mem_cons_of_mem _ pO⟩ (k1 u4)
 by_cases c1 : m.a.pc = 1
 ·simp only [if_neg c0, if_pos c1] at hk
  obtain ⟨q, rfl, qO, qp, gq⟩ := h3 c1
  obtain ⟨f1, f2⟩ := hf.pl c1
  have k2 : ∀ {τ : Mem}, Keep (q :: p :: N.l) σ τ → Keep (O ++ N.l) σ τ := fun k => k.mono fun i hi => by
   rcases List.mem_cons.1 hi with rfl | hi
   ·exact List.mem_append_left _ qO
   ·rcases List.mem_cons.1 hi with rfl | hi
    ·exact List.mem_append_left _ pO
    ·exact List.mem_append_right _ hi
  refine c_Mv1 hN hC hA (a := m.a.wp (some q)) (t := m.t) hp hd gq (own q qO) qp hw hn c1 rfl f1 f2 (fun d τ u1 u2 u3 u4 => ?_) (fun d o τ u1 u2 u3 => ?_) (fun d o τ u1 u2 u3 => ?_)
  ·rw [if_pos d] at hk
   exact hk O τ same u1 ⟨⟨some q, u2, fun _ => ⟨q, rfl, qO, qp, u3⟩⟩, own, pO⟩ (k2 u4)
  ·rw [if_neg (by rw [d]; decide), if_pos o] at hk
   exact hk O τ same u1 ⟨⟨some q, u2, fun e => by cases e⟩, own, pO⟩ (k2 u3)
  ·rw [if_neg (by rw [d]; decide), if_neg (by rw [o]; decide)] at hk
   exact hk O τ same u1 ⟨⟨some q, u2, fun e => absurd e (endm_pc (by decide : (2 : Int) ≠ 1))⟩, own, pO⟩ (k2 u3)
 by_cases c2 : m.a.pc = 2
 ·simp only [if_neg c0, if_neg c1, if_pos c2] at hk
  exact c_Mv2 hN hA (a := m.a.wp x) hp hd c2 (hf.sa (.inl c2)) fun τ u1 u2 u3 => hk O τ same u1 ⟨⟨x, u2, fun e => by cases e⟩, own, pO⟩ (k1 u3)
 by_cases c3 : m.a.pc = 3
 ·simp only [if_neg c0, if_neg c1, if_neg c2, if_pos c3] at hk
  exact c_Mv3 hN hC hA (a := m.a.wp x) hp hd c3 hn hf.hs hf.w fun τ u1 u2 u3 => hk O τ same u1 ⟨⟨x, u2, fun e => by dsimp only at e; split at e <;> cases e⟩, own, pO⟩ (k1 u3)
 by_cases c4 : m.a.pc = 4
 ·simp only [if_neg c0, if_neg c1, if_neg c2, if_neg c3, if_pos c4] at hk
  exact c_Mv4 hN hA (a := m.a.wp x) hp hd c4 hw hf.n2 hf.w hf.i.1 (hf.at' (.inl c4)) fun τ u1 u2 u3 => hk O τ same u1 ⟨⟨x, u2, fun e => by dsimp only at e; split at e <;> cases e⟩, own, pO⟩ (k1 u3)
 by_cases c5 : m.a.pc = 5
 ·simp only [if_neg c0, if_neg c1, if_neg c2, if_neg c3, if_neg c4, if_pos c5] at hk
  exact c_Mv5 hN hA (a := m.a.wp x) hp hd c5 hf.n2 hf.w hf.cell hf.i.1 (hf.at' (.inr c5)) fun τ u1 u2 u3 => hk O τ same u1 ⟨⟨x, u2, fun e => by dsimp only at e; split at e <;> cases e⟩, own, pO⟩ (k1 u3)
 by_cases c6 : m.a.pc = 6
 ·simp only [if_neg c0, if_neg c1, if_neg c2, if_neg c3, if_neg c4, if_neg c5, if_pos c6] at hk
  exact c_Mv6 hN hA (a := m.a.wp x) hp hd c6 hf.n2 hf.cell hf.i (hf.c6 c6) fun τ u1 u2 u3 => hk O τ same u1 ⟨⟨x, u2, fun e => by dsimp only at e; split at e <;> cases e⟩, own, pO⟩ (k1 u3)
 by_cases c7 : m.a.pc = 7
 ·simp only [if_neg c0, if_neg c1, if_neg c2, if_neg c3, if_neg c4, if_neg c5, if_neg c6, if_pos c7] at hk
  refine c_Mv7 hN hC hA (a := m.a.wp x) hp hd c7 hn hf.hs hf.w hf.nn (fun c τ u1 u2 u3 => ?_) (fun c d τ u1 u2 u3 => ?_) (fun c d τ u1 u2 u3 => ?_)
  ·rw [if_pos (show A.w (C.slot m.a.hs) = m.a.as 2 m.a.addr 0 from c)] at hk
   exact hk O τ same u1 ⟨⟨x, u2, fun e => by cases e⟩, own, pO⟩ (k1 u3)
  ·rw [if_neg (show ¬ A.w (C.slot m.a.hs) = m.a.as 2 m.a.addr 0 from c), if_pos (show C.R ≤ m.a.nn + 1 from d)] at hk
   exact hk O τ same u1 ⟨⟨x, u2, fun e => absurd e (endm_pc (by decide : (0 : Int) ≠ 1))⟩, own, pO⟩ (k1 u3)
  ·rw [if_neg (show ¬ A.w (C.slot m.a.hs) = m.a.as 2 m.a.addr 0 from c), if_neg (show ¬ C.R ≤ m.a.nn + 1 from d)] at hk
   exact hk O τ same u1 ⟨⟨x, u2, fun e => by cases e⟩, own, pO⟩ (k1 u3)
 by_cases c8 : m.a.pc = 8
 ·simp only [if_neg c0, if_neg c1, if_neg c2, if_neg c3, if_neg c4, if_neg c5, if_neg c6, if_neg c7, if_pos c8] at hk
  exact c_Mv8 hN hC hA (a := m.a.wp x) hp hd c8 (hf.sa (.inr (.inl c8))) hf.cl fun τ u1 u2 u3 => hk O τ same u1 ⟨⟨x, u2, fun e => by cases e⟩, own, pO⟩ (k1 u3)
 by_cases c9 : m.a.pc = 9
 ·simp only [if_neg c0, if_neg c1, if_neg c2, if_neg c3, if_neg c4, if_neg c5, if_neg c6, if_neg c7, if_neg c8, if_pos c9] at hk
  exact c_Mv9 hN hC hA (a := m.a.wp x) hp hd c9 hn (hf.c9 c9) hf.cl fun τ u1 u2 u3 => hk O τ same u1 ⟨⟨x, u2, fun e => by cases e⟩, own, pO⟩ (k1 u3)
 by_cases c10 : m.a.pc = 10
 ·simp only [if_neg c0, if_neg c1, if_neg c2, if_neg c3, if_neg c4, if_neg c5, if_neg c6, if_neg c7, if_neg c8, if_neg c9, if_pos c10] at hk
  exact c_Mv10 hN hC hA (a := m.a.wp x) hp hd c10 hn (hf.c10 c10) hf.cl fun τ u1 u2 u3 => hk O τ same u1 ⟨⟨x, u2, fun e => absurd (show m.a.pc = 1 from e) c1⟩, own, pO⟩ (k1 u3)
 have c11 : m.a.pc = 11 := by omega
 simp only [if_neg c0, if_neg c1, if_neg c2, if_neg c3, if_neg c4, if_neg c5, if_neg c6, if_neg c7, if_neg c8, if_neg c9, if_neg c10] at hk
 exact c_Mv11 hN hC hA (a := m.a.wp x) hp hd c11 (hf.sa (.inr (.inr c11))) hf.cl fun τ u1 u2 u3 => hk O τ same u1 ⟨⟨x, u2, fun e => absurd e c1⟩, own, pO⟩ (k1 u3)
theorem mob_new {ad k z s g : Int} {o : Bool} (hA : isA N A σ) (hk : ∀ p τ, σ.get p = none → MOb N p [p] (Mv.new ad k z s g o) τ → Ext σ τ → K (.pointer (some ⟨p, 0, none⟩)) τ) : s_ce [.int .i64 ad, .agg #[.int .i64 k, .int .i64 z, .int .i64 s, .int .i64 g, .bool o]] K σ := by
 refine c_MoveNew fun p τ hp gp x => hk p τ hp ⟨⟨none, gp, (fun e => by cases e)⟩, fun i hi => ?_, List.mem_singleton.2 rfl⟩ x
 rw [List.mem_singleton.1 hi]; exact hA.new hp
end Go.Fl
namespace Go.Fl
open Go
set_option linter.unusedVariables false
set_option linter.unusedSimpArgs false
variable {N : Nm} {A B : Ar} {σ : Mem} {K : Value → Mem → Prop} {C : Cf} {who : Int}
structure Ac where
 kd : Int
 n : Int
 ix : Int
 v : Int
 old : Int
 own : Bool
 hs : Int
 hg : Int
 pc : Int
 w : Int
 cell : Int
 seen : Int
 rd : Int
 size : Int
 help : Option Nat
 oE : Int
 oH : Int
 oV : Int
 oS : Int
def Ac.l (a : Ac) : List Value := [.int .i64 a.kd, .int .u64 a.n, .int .i64 a.ix, .int .i64 a.v, .int .i64 a.old, .bool a.own, .int .i64 a.hs, .int .i64 a.hg, .int .i64 a.pc, .int .u64 a.w, .int .u64 a.cell, .int .i64 a.seen, .int .i64 a.rd, .int .i64 a.size, obP a.help, .int .i64 a.oE, .int .u64 a.oH, .int .i64 a.oV, .int .i64 a.oS]
def Ac.new (kd n ix v old : Int) (own : Bool) : Ac := ⟨kd, n, ix, v, old, own, 0, 0, 0, 0, 0, 0, 0, 0, none, 0, 0, 0, 0⟩
def Ac.nxt (a : Ac) : Int :=
 if a.kd = 1 ∨ a.kd = 3 ∧ ceV a.cell ≠ a.old then 6 else if slS a.w = 4 then 4 else if ceF a.cell = false ∨ ceN a.cell < slV a.w then 5 else if ceN a.cell = slV a.w ∧ slS a.w = 2 then 3 else 0
def Ac.at' (a : Ac) : Int := slA a.w + 1 + a.ix
def Ac.fin (a : Ac) (e v s : Int) : Ac := { a with oE := e, oH := 0, oV := v, oS := s }
theorem ldAx {p k sz : Nat} {ag : Bool} {a : Ac} {v : Value} (hd : p ∉ N.l) (h : sub a.l k sz ag = some v) : hLoad sz ag [.pointer (some ⟨p, k, none⟩)] K (putA N A (σ.set p ⟨a.l, true⟩)) = K v (putA N A (σ.set p ⟨a.l, true⟩)) := by
 rw [hLoad_eq ((putA_get hd).trans (Mem.get_set_same _ _ _)), h, xOs]
theorem stAx {p k : Nat} {a : Ac} (a' : Ac) {x : Value} (hd : p ∉ N.l) (hx : cellsOf x 1 = some [x]) (ho : oneB x = true) (hk : k + 1 ≤ 19) (e : lay a.l k [x] = a'.l) :
  hStore 1 [.pointer (some ⟨p, k, none⟩), x] K (putA N A (σ.set p ⟨a.l, true⟩)) = K undef (putA N A (σ.set p ⟨a'.l, true⟩)) := by
 have := stO (K := K) (N := N) (A := A) (σ := σ) (p := p) (pre := []) (L := a.l) (post := []) (k := k) (sz := 1) (x := x) (c := [x]) hd hx rfl hk (by simp [ho])
 rw [e] at this
 simpa only [List.nil_append, List.append_nil, List.length_nil, Nat.zero_add] using this
theorem stAxa {p k sz : Nat} {a : Ac} (a' : Ac) {c : List Value} (hd : p ∉ N.l) (hl : c.length = sz) (ho : c.all oneB = true) (hk : k + sz ≤ 19) (e : lay a.l k c = a'.l) :
  hStore sz [.pointer (some ⟨p, k, none⟩), .agg c.toArray] K (putA N A (σ.set p ⟨a.l, true⟩)) = K undef (putA N A (σ.set p ⟨a'.l, true⟩)) := by
 have := stOa (K := K) (N := N) (A := A) (σ := σ) (p := p) (pre := []) (L := a.l) (post := []) (k := k) (sz := sz) (c := c) hd hl hk ho
 rw [e] at this
 simpa only [List.nil_append, List.append_nil, List.length_nil, Nat.zero_add] using this
theorem c_AccNew {kd n ix v old : Int} {o : Bool} (hk : ∀ id τ, σ.get id = none → τ.get id = some ⟨(Ac.new kd n ix v old o).l, true⟩ → Ext σ τ → K (.pointer (some ⟨id, 0, none⟩)) τ) :
  s_ag [.agg #[.int .i64 kd, .int .u64 n, .int .i64 ix, .int .i64 v, .int .i64 old], .bool o] K σ := by
 have b : ∀ K : Value → Prop, xF (fBuild [(0, 5), (5, 1), (6, 2), (8, 1), (9, 1), (10, 1), (11, 1), (12, 1), (13, 1), (14, 1), (15, 4)] [.int .i64 0, .int .u64 0, .int .i64 0, .int .i64 0, .int .i64 0, .bool false, .int .i64 0, .int .i64 0, .int .i64 0, .int .u64 0, .int .u64 0, .int .i64 0, .int .i64 0, .int .i64 0, .pointer none, .int .i64 0, .int .u64 0, .int .i64 0, .int .i64 0] [0, 1]) [.agg #[.int .i64 kd, .int .u64 n, .int .i64 ix, .int .i64 v, .int .i64 old], .bool o] K =
   K (.agg (Ac.new kd n ix v old o).l.toArray) := fun K => nr rfl
 have g : gBox 5 [.agg #[.int .i64 kd, .int .u64 n, .int .i64 ix, .int .i64 v, .int .i64 old]] [] = some [.int .i64 kd, .int .u64 n, .int .i64 ix, .int .i64 v, .int .i64 old] := rfl
 have s5 : ∀ x y z u w : Value, gLoad 5 true [.pointer (some ⟨2, 0, some 0⟩)] [x, y, z, u, w] = some (.agg #[x, y, z, u, w]) := fun _ _ _ _ _ => rfl
 simp only [s_ag, w_ag, g, s5, locP, b, xCs, xOs, ruS, Nat.reduceAdd, reduceIte, Int.reduceLT, Int.reduceLE, Int.reduceEq, Int.reduceNeg, Int.reduceAdd, Int.reduceSub]
 exact hBox_i (cs := (Ac.new kd n ix v old o).l) rfl hk
theorem c_AccDone (hA : isA N A σ) {p : Nat} {a : Ac} (hp : σ.get p = some ⟨a.l, true⟩) (hk : K (.agg #[.int .i64 a.oE, .int .u64 a.oH, .int .i64 a.oV, .int .i64 a.oS]) σ) : s_aa [.pointer (some ⟨p, 0, none⟩)] K σ := by
 have gs : ∀ x y z w : Int, gStore 4 [.pointer (some ⟨2, 0, some 0⟩), .agg #[.int .i64 x, .int .u64 y, .int .i64 z, .int .i64 w]] [.int .i64 0, .int .u64 0, .int .i64 0, .int .i64 0] = some [.int .i64 x, .int .u64 y, .int .i64 z, .int .i64 w] := fun _ _ _ _ => rfl
 simp only [s_aa, w_aa, ruS, ruL, ruE, Nat.reduceAdd, reduceIte, Int.reduceLT, Int.reduceLE, Int.reduceEq, Int.reduceNeg, Int.reduceAdd, Int.reduceSub, Nat.reduceLeDiff, Nat.reduceLT]
 rw [ldG hp (show sub a.l 15 4 true = some (.agg #[.int .i64 a.oE, .int .u64 a.oH, .int .i64 a.oV, .int .i64 a.oS]) from rfl)]
 simp only [gs, sub4, ruS, ruL, ruE, Nat.reduceAdd, reduceIte, Int.reduceLT, Int.reduceLE, Int.reduceEq, Int.reduceNeg, Int.reduceAdd, Int.reduceSub, Nat.reduceLeDiff, Nat.reduceLT]
 exact hk
theorem c_Aend {p : Nat} {a : Ac} {e v s : Int} (hd : p ∉ N.l) : s_ae [.pointer (some ⟨p, 0, none⟩), .int .i64 e, .int .i64 v, .int .i64 s] K (putA N A (σ.set p ⟨a.l, true⟩)) = K (.bool true) (putA N A (σ.set p ⟨(a.fin e v s).l, true⟩)) := by
 have b : ∀ (K : Value → Prop), xF (fBuild [(0, 1), (1, 1), (2, 1), (3, 1)] [.int .i64 0, .int .u64 0, .int .i64 0, .int .i64 0] [0, 2, 3]) [.int .i64 e, .int .i64 v, .int .i64 s] K = K (.agg #[.int .i64 e, .int .u64 0, .int .i64 v, .int .i64 s]) := fun K => nr rfl
 simp only [s_ae, w_ae, b, ruS, ruL, ruE, Nat.reduceAdd, reduceIte, Int.reduceLT, Int.reduceLE, Int.reduceEq, Int.reduceNeg, Int.reduceAdd, Int.reduceSub, Nat.reduceLeDiff, Nat.reduceLT]
 have := stAxa (K := fun _ σ => K (.bool true) σ) (N := N) (A := A) (σ := σ) (p := p) (a := a) (a.fin e v s) (c := [.int .i64 e, .int .u64 0, .int .i64 v, .int .i64 s]) (sz := 4) (k := 15) hd rfl rfl (by decide) rfl
 exact this
theorem c_Aat {p : Nat} {a : Ac} (hd : p ∉ N.l) (h3 : 0 ≤ a.w ∧ a.w < 18446744073709551616) (h : 0 ≤ a.at' ∧ a.at' < 9223372036854775807) : s_ac [.pointer (some ⟨p, 0, none⟩)] K (putA N A (σ.set p ⟨a.l, true⟩)) = K (.int .i64 a.at') (putA N A (σ.set p ⟨a.l, true⟩)) := by
 have hA1 := slA_bd a.w
 simp only [s_ac, w_ac, ruS, ruL, ruE, Nat.reduceAdd, reduceIte, Int.reduceLT, Int.reduceLE, Int.reduceEq, Int.reduceNeg, Int.reduceAdd, Int.reduceSub, Nat.reduceLeDiff, Nat.reduceLT]
 rw [ldAx hd (show sub _ 9 1 false = some (.int .u64 a.w) from rfl), c_wSlot h3.1 h3.2]
 simp only [xFldV, List.toList_toArray, ruS, ruL, ruE, Nat.reduceAdd, reduceIte, Int.reduceLT, Int.reduceLE, Int.reduceEq, Int.reduceNeg, Int.reduceAdd, Int.reduceSub, Nat.reduceLeDiff, Nat.reduceLT]
 rw [ldAx hd (show sub _ 2 1 false = some (.int .i64 a.ix) from rfl), IntWalk.i64_in (slA a.w + 1) (by omega)]
 simp only [ruS, ruL, ruE, Nat.reduceAdd, reduceIte, Int.reduceLT, Int.reduceLE, Int.reduceEq, Int.reduceNeg, Int.reduceAdd, Int.reduceSub, Nat.reduceLeDiff, Nat.reduceLT]
 rw [show slA a.w + 1 + a.ix = a.at' from rfl, IntWalk.i64_in _ (by omega)]
theorem c_Anext {p : Nat} {a : Ac} (hd : p ∉ N.l) (h3 : 0 ≤ a.w ∧ a.w < 18446744073709551616) (h4 : 0 ≤ a.cell ∧ a.cell < 18446744073709551616) : s_af [.pointer (some ⟨p, 0, none⟩)] K (putA N A (σ.set p ⟨a.l, true⟩)) = K (.int .i64 a.nxt) (putA N A (σ.set p ⟨a.l, true⟩)) := by
 have g4 : ∀ (k : Nat) (x y z w x' y' z' w' : Int), gStore 4 [.pointer (some ⟨k, 0, some 0⟩), .agg #[.int .i64 x, .int .i64 y, .int .i64 z, .int .i64 w]] [.int .i64 x', .int .i64 y', .int .i64 z', .int .i64 w'] = some [.int .i64 x, .int .i64 y, .int .i64 z, .int .i64 w] := fun _ _ _ _ _ _ _ _ _ => rfl
 have g3 : ∀ (k : Nat) (x z : Int) (y : Bool) (x' z' : Int) (y' : Bool), gStore 3 [.pointer (some ⟨k, 0, some 0⟩), .agg #[.int .i64 x, .bool y, .int .i64 z]] [.int .i64 x', .bool y', .int .i64 z'] = some [.int .i64 x, .bool y, .int .i64 z] := fun _ _ _ _ _ _ _ => rfl
 simp only [s_af, w_af, ruS, ruL, ruE, Nat.reduceAdd, reduceIte, Int.reduceLT, Int.reduceLE, Int.reduceEq, Int.reduceNeg, Int.reduceAdd, Int.reduceSub, Nat.reduceLeDiff, Nat.reduceLT]
 rw [ldAx hd (show sub _ 10 1 false = some (.int .u64 a.cell) from rfl), c_wCell h4.1 h4.2]
 simp only [ruS, ruL, ruE, Nat.reduceAdd, reduceIte, Int.reduceLT, Int.reduceLE, Int.reduceEq, Int.reduceNeg, Int.reduceAdd, Int.reduceSub, Nat.reduceLeDiff, Nat.reduceLT]
 rw [ldAx hd (show sub _ 9 1 false = some (.int .u64 a.w) from rfl), c_wSlot h3.1 h3.2]
 simp only [g3, g4, ruS, ruL, ruE, Nat.reduceAdd, reduceIte, Int.reduceLT, Int.reduceLE, Int.reduceEq, Int.reduceNeg, Int.reduceAdd, Int.reduceSub, Nat.reduceLeDiff, Nat.reduceLT]
 rw [ldAx hd (show sub _ 0 1 false = some (.int .i64 a.kd) from rfl)]
 have rest : ∀ b : Bool, (b = true ↔ a.kd = 1 ∨ a.kd = 3 ∧ ceV a.cell ≠ a.old) → w_af_j1 K [.bool b] [[.int .i64 (ceV a.cell), .bool (ceF a.cell), .int .i64 (ceN a.cell)], [.int .i64 (slS a.w), .int .i64 (slA a.w), .int .i64 (slG a.w), .int .i64 (slV a.w)]] (putA N A (σ.set p ⟨a.l, true⟩)) = K (.int .i64 a.nxt) (putA N A (σ.set p ⟨a.l, true⟩)) := by
  intro b hb
  unfold Ac.nxt
  simp only [← hb]
  simp only [w_af_j1, w_af_j1b, ruS, ruL, ruE, Nat.reduceAdd, reduceIte, Int.reduceLT, Int.reduceLE, Int.reduceEq, Int.reduceNeg, Int.reduceAdd, Int.reduceSub, Nat.reduceLeDiff, Nat.reduceLT]
  cases b with
  | true => simp only [ruS, ruL, ruE, Nat.reduceAdd, reduceIte, Int.reduceLT, Int.reduceLE, Int.reduceEq, Int.reduceNeg, Int.reduceAdd, Int.reduceSub, Nat.reduceLeDiff, Nat.reduceLT]
  | false =>
   simp only [Bool.false_eq_true, if_false, ruS, ruL, ruE, Nat.reduceAdd, reduceIte, Int.reduceLT, Int.reduceLE, Int.reduceEq, Int.reduceNeg, Int.reduceAdd, Int.reduceSub, Nat.reduceLeDiff, Nat.reduceLT]
   by_cases c1 : slS a.w = 4
   ·simp only [c1, ruS, ruL, ruE, Nat.reduceAdd, reduceIte, Int.reduceLT, Int.reduceLE, Int.reduceEq, Int.reduceNeg, Int.reduceAdd, Int.reduceSub, Nat.reduceLeDiff, Nat.reduceLT]
   ·simp only [c1, ruS, ruL, ruE, Nat.reduceAdd, reduceIte, Int.reduceLT, Int.reduceLE, Int.reduceEq, Int.reduceNeg, Int.reduceAdd, Int.reduceSub, Nat.reduceLeDiff, Nat.reduceLT]
    cases c2 : ceF a.cell with
    | false => simp only [w_af_j2, w_af_j2b, true_or, ruS, ruL, ruE, Nat.reduceAdd, reduceIte, Int.reduceLT, Int.reduceLE, Int.reduceEq, Int.reduceNeg, Int.reduceAdd, Int.reduceSub, Nat.reduceLeDiff, Nat.reduceLT]
    | true =>
     by_cases c3 : ceN a.cell < slV a.w
     ·simp only [c3, w_af_j2, w_af_j2b, or_true, ruS, ruL, ruE, Nat.reduceAdd, reduceIte, Int.reduceLT, Int.reduceLE, Int.reduceEq, Int.reduceNeg, Int.reduceAdd, Int.reduceSub, Nat.reduceLeDiff, Nat.reduceLT]
     ·by_cases c4 : ceN a.cell = slV a.w
      ·by_cases c5 : slS a.w = 2
       ·simp only [c3, c4, c5, Int.lt_irrefl, w_af_j2, w_af_j2b, w_af_j3, w_af_j3b, Bool.true_eq_false, or_self, and_self, ruS, ruL, ruE, Nat.reduceAdd, reduceIte, Int.reduceLT, Int.reduceLE, Int.reduceEq, Int.reduceNeg, Int.reduceAdd, Int.reduceSub, Nat.reduceLeDiff, Nat.reduceLT]
       ·simp only [c3, c4, c5, Int.lt_irrefl, w_af_j2, w_af_j2b, w_af_j3, w_af_j3b, Bool.true_eq_false, or_self, and_false, ruS, ruL, ruE, Nat.reduceAdd, reduceIte, Int.reduceLT, Int.reduceLE, Int.reduceEq, Int.reduceNeg, Int.reduceAdd, Int.reduceSub, Nat.reduceLeDiff, Nat.reduceLT]
      ·simp only [c3, c4, w_af_j2, w_af_j2b, w_af_j3, w_af_j3b, Bool.true_eq_false, or_self, false_and, ruS, ruL, ruE, Nat.reduceAdd, reduceIte, Int.reduceLT, Int.reduceLE, Int.reduceEq, Int.reduceNeg, Int.reduceAdd, Int.reduceSub, Nat.reduceLeDiff, Nat.reduceLT]
 by_cases c1 : a.kd = 1
 ·simp only [c1, ruS, ruL, ruE, Nat.reduceAdd, reduceIte, Int.reduceLT, Int.reduceLE, Int.reduceEq, Int.reduceNeg, Int.reduceAdd, Int.reduceSub, Nat.reduceLeDiff, Nat.reduceLT]
  exact rest true (by simp [c1])
 ·simp only [c1, ruS, ruL, ruE, Nat.reduceAdd, reduceIte, Int.reduceLT, Int.reduceLE, Int.reduceEq, Int.reduceNeg, Int.reduceAdd, Int.reduceSub, Nat.reduceLeDiff, Nat.reduceLT]
  rw [ldAx hd (show sub _ 0 1 false = some (.int .i64 a.kd) from rfl)]
  by_cases c3 : a.kd = 3
  ·simp only [c3, ruS, ruL, ruE, Nat.reduceAdd, reduceIte, Int.reduceLT, Int.reduceLE, Int.reduceEq, Int.reduceNeg, Int.reduceAdd, Int.reduceSub, Nat.reduceLeDiff, Nat.reduceLT]
   rw [ldAx hd (show sub _ 4 1 false = some (.int .i64 a.old) from rfl)]
   by_cases c4 : ceV a.cell = a.old
   ·simp only [c4, ne_eq, not_true_eq_false, ruS, ruL, ruE, Nat.reduceAdd, reduceIte, Int.reduceLT, Int.reduceLE, Int.reduceEq, Int.reduceNeg, Int.reduceAdd, Int.reduceSub, Nat.reduceLeDiff, Nat.reduceLT]
    rw [← c4]
    exact rest false (by simp [c1, c4])
   ·simp only [c4, ne_eq, not_false_eq_true, ruS, ruL, ruE, Nat.reduceAdd, reduceIte, Int.reduceLT, Int.reduceLE, Int.reduceEq, Int.reduceNeg, Int.reduceAdd, Int.reduceSub, Nat.reduceLeDiff, Nat.reduceLT]
    exact rest true (by simp [c3, c4])
  ·simp only [c3, ruS, ruL, ruE, Nat.reduceAdd, reduceIte, Int.reduceLT, Int.reduceLE, Int.reduceEq, Int.reduceNeg, Int.reduceAdd, Int.reduceSub, Nat.reduceLeDiff, Nat.reduceLT]
   exact rest false (by simp [c1, c3])
end Go.Fl
namespace Go.Fl
open Go
set_option linter.unusedVariables false
set_option linter.unusedSimpArgs false
variable {N : Nm} {A B : Ar} {σ : Mem} {K : Value → Mem → Prop} {C : Cf} {who : Int}
def Ac.step (C : Cf) (who : Int) (A : Ar) (a : Ac) : Bool × Ac × Ar :=
 if a.pc = 0 then
  if hdOk a.n = false ∨ C.S ≤ hdSl a.n then (true, ({ a with hs := hdSl a.n, hg := hdGe a.n } : Ac).fin 3 0 A.s, A)
  else if lives (A.w (C.slot (hdSl a.n))) (hdGe a.n) then (false, { a with hs := hdSl a.n, hg := hdGe a.n, w := A.w (C.slot (hdSl a.n)), seen := ((A.by who).load (C.slot (hdSl a.n))).s, pc := 1 }, (A.by who).load (C.slot (hdSl a.n)))
  else (true, ({ a with hs := hdSl a.n, hg := hdGe a.n, w := A.w (C.slot (hdSl a.n)), seen := ((A.by who).load (C.slot (hdSl a.n))).s, pc := 1 } : Ac).fin 3 0 ((A.by who).load (C.slot (hdSl a.n))).s, (A.by who).load (C.slot (hdSl a.n)))
 else if a.pc = 1 then
  if hdO (A.w (slA a.w)) ≠ a.own then (true, ({ a with size := hdS (A.w (slA a.w)), pc := 2 } : Ac).fin 3 0 ((A.by who).load (slA a.w)).s, (A.by who).load (slA a.w))
  else if a.ix < 0 ∨ hdS (A.w (slA a.w)) ≤ a.ix then (true, ({ a with size := hdS (A.w (slA a.w)), pc := 2 } : Ac).fin 4 0 a.seen, (A.by who).load (slA a.w))
  else (false, { a with size := hdS (A.w (slA a.w)), pc := 2 }, (A.by who).load (slA a.w))
 else if a.pc = 2 then
  (false, { a with cell := A.w a.at', rd := ((A.by who).load a.at').s, pc := ({ a with cell := A.w a.at' } : Ac).nxt }, (A.by who).load a.at')
 else if a.pc = 3 then
  (false, { a with pc := 0 }, (A.by who).cas (C.slot a.hs) a.w (putSlot 1 (slA a.w) (slG a.w) (slV a.w + 1)))
 else if a.pc = 5 then
  if A.w a.at' = a.cell then (true, ({ a with pc := 0 } : Ac).fin 0 (ceV a.cell) ((A.by who).cas a.at' a.cell (putCell a.v false 0)).s, (A.by who).cas a.at' a.cell (putCell a.v false 0))
  else (false, { a with pc := 0 }, (A.by who).cas a.at' a.cell (putCell a.v false 0))
 else
  if lives (A.w (C.slot a.hs)) a.hg then
   if slA (A.w (C.slot a.hs)) = slA a.w then (true, a.fin (if a.kd = 3 then 8 else 0) (ceV a.cell) a.rd, (A.by who).load (C.slot a.hs))
   else (false, { a with pc := 0 }, (A.by who).load (C.slot a.hs))
  else (true, a.fin 3 0 ((A.by who).load (C.slot a.hs)).s, (A.by who).load (C.slot a.hs))
structure Ac.fit (C : Cf) (A : Ar) (a : Ac) : Prop where
 pc : 0 ≤ a.pc ∧ a.pc ≤ 6
 n : 0 ≤ a.n ∧ a.n < 18446744073709551616
 hs : 0 ≤ a.hs ∧ a.hs < C.S
 w : 0 ≤ a.w ∧ a.w < 18446744073709551616
 cell : 0 ≤ a.cell ∧ a.cell < 18446744073709551616
 a1 : a.pc = 1 → slA a.w < A.n
 a2 : a.pc = 2 ∨ a.pc = 5 → 0 ≤ a.at' ∧ a.at' < A.n
 bd : (A.n : Int) ≤ 200000000
theorem c_Ac0 (hN : N.ok) (hC : C.ok) (hA : isA N A σ) {p : Nat} {a : Ac} (hp : σ.get p = some ⟨a.l, true⟩) (hd : p ∉ N.l) (hw : ∀ i, 0 ≤ A.w i ∧ A.w i < 18446744073709551616) (hn : C.len ≤ A.n) (hf : a.fit C A) (h : a.pc = 0)
  (hk : ∀ τ, isA N (a.step C who A).2.2 τ → τ.get p = some ⟨(a.step C who A).2.1.l, true⟩ → Keep (p :: N.l) σ τ → K (.bool (a.step C who A).1) τ) :
  s_ab [.pointer (some ⟨p, 0, none⟩), N.env C who] K σ := by
 have hT := hC.T; have hS := hC.S; have hC3 := hC.C; have hl := len_bd hC
 have hch : C.chunk C.C = 6 + C.T + 2 * C.S + 3 * C.C := rfl
 have h1 := hf.n
 obtain ⟨b1, b2⟩ := hdSl_bd h1.1
 rw [hA.obj hp]
 have g2 : ∀ (k : Nat) (x y : Int), gStore 2 [.pointer (some ⟨k, 0, some 0⟩), .agg #[.int .i64 x, .int .i64 y]] [.int .i64 0, .int .i64 0] = some [.int .i64 x, .int .i64 y] := fun _ _ _ => rfl
 have s2 : ∀ x y : Value, sub [x, y] 0 2 true = some (.agg #[x, y]) := fun _ _ => rfl
 unfold Ac.step at hk
 rw [if_pos h] at hk
 simp only [s_ab, w_ab, ruS, ruL, ruE, Nat.reduceAdd, reduceIte, Int.reduceLT, Int.reduceLE, Int.reduceEq, Int.reduceNeg, Int.reduceAdd, Int.reduceSub, Nat.reduceLeDiff, Nat.reduceLT]
 rw [ldAx hd (show sub _ 8 1 false = some (.int .i64 a.pc) from rfl)]
 simp only [h, ruS, ruL, ruE, Nat.reduceAdd, reduceIte, Int.reduceLT, Int.reduceLE, Int.reduceEq, Int.reduceNeg, Int.reduceAdd, Int.reduceSub, Nat.reduceLeDiff, Nat.reduceLT]
 rw [ldAx hd (show sub _ 1 1 false = some (.int .u64 a.n) from rfl), c_wHandleG h1.1 h1.2]
 simp only [g2, s2, ruS, ruL, ruE, Nat.reduceAdd, reduceIte, Int.reduceLT, Int.reduceLE, Int.reduceEq, Int.reduceNeg, Int.reduceAdd, Int.reduceSub, Nat.reduceLeDiff, Nat.reduceLT]
 have st2 : ∀ K : Value → Mem → Prop, hStore 2 [.pointer (some ⟨p, 6, none⟩), .agg #[.int .i64 (hdSl a.n), .int .i64 (hdGe a.n)]] K (putA N A (σ.set p ⟨a.l, true⟩)) = K undef (putA N A (σ.set p ⟨({ a with hs := hdSl a.n, hg := hdGe a.n } : Ac).l, true⟩)) :=
  fun K => stAxa (a := a) { a with hs := hdSl a.n, hg := hdGe a.n } (c := [.int .i64 (hdSl a.n), .int .i64 (hdGe a.n)]) (sz := 2) (k := 6) hd rfl rfl (by decide) rfl
 rw [st2]
 cases hO : hdOk a.n with
 | false =>
  rw [if_pos (.inl hO)] at hk
  simp only [w_ab_j2, w_ab_j2b, ruS, ruL, ruE, Nat.reduceAdd, reduceIte, Int.reduceLT, Int.reduceLE, Int.reduceEq, Int.reduceNeg, Int.reduceAdd, Int.reduceSub, Nat.reduceLeDiff, Nat.reduceLT]
  rw [c_Now, c_Aend hd]
  exact behind hN hd hk
 | true =>
  by_cases hs : C.S ≤ hdSl a.n
  ·rw [if_pos (.inr hs)] at hk
   simp only [hs, w_ab_j2, w_ab_j2b, ruS, ruL, ruE, Nat.reduceAdd, reduceIte, Int.reduceLT, Int.reduceLE, Int.reduceEq, Int.reduceNeg, Int.reduceAdd, Int.reduceSub, Nat.reduceLeDiff, Nat.reduceLT]
   rw [c_Now, c_Aend hd]
   exact behind hN hd hk
  ·rw [if_neg (fun q => by rcases q with q | q; rw [hO] at q; cases q; exact hs q)] at hk
   have hsb : 0 ≤ C.slot (hdSl a.n) ∧ C.slot (hdSl a.n) < A.n := by unfold Cf.slot; omega
   have hwa := hw (C.slot (hdSl a.n))
   simp only [hs, w_ab_j2, w_ab_j2b, ruS, ruL, ruE, Nat.reduceAdd, reduceIte, Int.reduceLT, Int.reduceLE, Int.reduceEq, Int.reduceNeg, Int.reduceAdd, Int.reduceSub, Nat.reduceLeDiff, Nat.reduceLT]
   rw [c_Slot hC b1.1 (by omega), c_Load hN hsb.1 hsb.2, stAx { a with hs := hdSl a.n, hg := hdGe a.n, w := A.w (C.slot (hdSl a.n)) } hd rfl rfl (by decide) rfl]
   rw [c_Now]
   rw [stAx { a with hs := hdSl a.n, hg := hdGe a.n, w := A.w (C.slot (hdSl a.n)), seen := ((A.by who).load (C.slot (hdSl a.n))).s } hd rfl rfl (by decide) rfl]
   rw [stAx { a with hs := hdSl a.n, hg := hdGe a.n, w := A.w (C.slot (hdSl a.n)), seen := ((A.by who).load (C.slot (hdSl a.n))).s, pc := 1 } hd rfl rfl (by decide) rfl]
   rw [ldAx (a := { a with hs := hdSl a.n, hg := hdGe a.n, w := A.w (C.slot (hdSl a.n)), seen := ((A.by who).load (C.slot (hdSl a.n))).s, pc := 1 }) hd (show sub _ 9 1 false = some (.int .u64 (A.w (C.slot (hdSl a.n)))) from rfl), c_wSlot hwa.1 hwa.2]
   simp only [s2, ruS, ruL, ruE, Nat.reduceAdd, reduceIte, Int.reduceLT, Int.reduceLE, Int.reduceEq, Int.reduceNeg, Int.reduceAdd, Int.reduceSub, Nat.reduceLeDiff, Nat.reduceLT]
   rw [c_Live]
   by_cases hl' : lives (A.w (C.slot (hdSl a.n))) (hdGe a.n)
   ·have e : decide ((slS (A.w (C.slot (hdSl a.n))) = 1 ∨ slS (A.w (C.slot (hdSl a.n))) = 2 ∨ slS (A.w (C.slot (hdSl a.n))) = 4) ∧ slG (A.w (C.slot (hdSl a.n))) = hdGe a.n) = true := decide_eq_true hl'
    rw [if_pos hl'] at hk
    simp only [e, w_ab_j1, w_ab_j1b, ruS, ruL, ruE, Nat.reduceAdd, reduceIte, Int.reduceLT, Int.reduceLE, Int.reduceEq, Int.reduceNeg, Int.reduceAdd, Int.reduceSub, Nat.reduceLeDiff, Nat.reduceLT]
    exact behind hN hd hk
   ·have e : decide ((slS (A.w (C.slot (hdSl a.n))) = 1 ∨ slS (A.w (C.slot (hdSl a.n))) = 2 ∨ slS (A.w (C.slot (hdSl a.n))) = 4) ∧ slG (A.w (C.slot (hdSl a.n))) = hdGe a.n) = false := decide_eq_false hl'
    rw [if_neg hl'] at hk
    simp only [e, ruS, ruL, ruE, Nat.reduceAdd, reduceIte, Int.reduceLT, Int.reduceLE, Int.reduceEq, Int.reduceNeg, Int.reduceAdd, Int.reduceSub, Nat.reduceLeDiff, Nat.reduceLT]
    rw [c_Now, c_Aend hd]
    exact behind hN hd hk
theorem c_Ac1 (hN : N.ok) (hC : C.ok) (hA : isA N A σ) {p : Nat} {a : Ac} (hp : σ.get p = some ⟨a.l, true⟩) (hd : p ∉ N.l) (hw : ∀ i, 0 ≤ A.w i ∧ A.w i < 18446744073709551616) (hf : a.fit C A) (h : a.pc = 1)
  (hk : ∀ τ, isA N (a.step C who A).2.2 τ → τ.get p = some ⟨(a.step C who A).2.1.l, true⟩ → Keep (p :: N.l) σ τ → K (.bool (a.step C who A).1) τ) :
  s_ab [.pointer (some ⟨p, 0, none⟩), N.env C who] K σ := by
 have hb := slA_bd a.w
 have hwa := hw (slA a.w)
 have h3 := hf.w
 have h4 := hf.a1 h
 rw [hA.obj hp]
 have g5 : ∀ (k : Nat) (x y z w : Int) (b : Bool), gStore 5 [.pointer (some ⟨k, 0, some 0⟩), .agg #[.int .i64 x, .int .i64 y, .int .i64 z, .int .i64 w, .bool b]] [.int .i64 0, .int .i64 0, .int .i64 0, .int .i64 0, .bool false] = some [.int .i64 x, .int .i64 y, .int .i64 z, .int .i64 w, .bool b] := fun _ _ _ _ _ _ => rfl
 unfold Ac.step at hk
 rw [if_neg (by omega), if_pos h] at hk
 simp only [s_ab, w_ab, ruS, ruL, ruE, Nat.reduceAdd, reduceIte, Int.reduceLT, Int.reduceLE, Int.reduceEq, Int.reduceNeg, Int.reduceAdd, Int.reduceSub, Nat.reduceLeDiff, Nat.reduceLT]
 rw [ldAx hd (show sub _ 8 1 false = some (.int .i64 a.pc) from rfl)]
 simp only [h, ruS, ruL, ruE, Nat.reduceAdd, reduceIte, Int.reduceLT, Int.reduceLE, Int.reduceEq, Int.reduceNeg, Int.reduceAdd, Int.reduceSub, Nat.reduceLeDiff, Nat.reduceLT]
 rw [ldAx hd (show sub _ 9 1 false = some (.int .u64 a.w) from rfl), c_wSlot h3.1 h3.2]
 simp only [xFldV, List.toList_toArray, ruS, ruL, ruE, Nat.reduceAdd, reduceIte, Int.reduceLT, Int.reduceLE, Int.reduceEq, Int.reduceNeg, Int.reduceAdd, Int.reduceSub, Nat.reduceLeDiff, Nat.reduceLT]
 rw [c_Load hN hb.1 h4, c_wHead hwa.1 hwa.2]
 simp only [g5, ruS, ruL, ruE, Nat.reduceAdd, reduceIte, Int.reduceLT, Int.reduceLE, Int.reduceEq, Int.reduceNeg, Int.reduceAdd, Int.reduceSub, Nat.reduceLeDiff, Nat.reduceLT]
 rw [stAx { a with size := hdS (A.w (slA a.w)) } hd rfl rfl (by decide) rfl, stAx { a with size := hdS (A.w (slA a.w)), pc := 2 } hd rfl rfl (by decide) rfl,
  ldAx (a := { a with size := hdS (A.w (slA a.w)), pc := 2 }) hd (show sub _ 5 1 false = some (.bool a.own) from rfl)]
 by_cases e : hdO (A.w (slA a.w)) = a.own
 ·rw [if_neg (fun q => q e)] at hk
  simp only [e, xNeBB, beq_self_eq_true, ruS, ruL, ruE, Nat.reduceAdd, reduceIte, Int.reduceLT, Int.reduceLE, Int.reduceEq, Int.reduceNeg, Int.reduceAdd, Int.reduceSub, Nat.reduceLeDiff, Nat.reduceLT]
  rw [ldAx (a := { a with size := hdS (A.w (slA a.w)), pc := 2 }) hd (show sub _ 2 1 false = some (.int .i64 a.ix) from rfl)]
  by_cases c1 : a.ix < 0
  ·rw [if_pos (.inl c1)] at hk
   simp only [c1, w_ab_j3, w_ab_j3b, ruS, ruL, ruE, Nat.reduceAdd, reduceIte, Int.reduceLT, Int.reduceLE, Int.reduceEq, Int.reduceNeg, Int.reduceAdd, Int.reduceSub, Nat.reduceLeDiff, Nat.reduceLT]
   rw [ldAx (a := { a with size := hdS (A.w (slA a.w)), pc := 2 }) hd (show sub _ 11 1 false = some (.int .i64 a.seen) from rfl), c_Aend hd]
   exact behind hN hd hk
  ·simp only [c1, ruS, ruL, ruE, Nat.reduceAdd, reduceIte, Int.reduceLT, Int.reduceLE, Int.reduceEq, Int.reduceNeg, Int.reduceAdd, Int.reduceSub, Nat.reduceLeDiff, Nat.reduceLT]
   rw [ldAx (a := { a with size := hdS (A.w (slA a.w)), pc := 2 }) hd (show sub _ 2 1 false = some (.int .i64 a.ix) from rfl)]
   by_cases c2 : hdS (A.w (slA a.w)) ≤ a.ix
   ·rw [if_pos (.inr c2)] at hk
    simp only [c2, w_ab_j3, w_ab_j3b, ruS, ruL, ruE, Nat.reduceAdd, reduceIte, Int.reduceLT, Int.reduceLE, Int.reduceEq, Int.reduceNeg, Int.reduceAdd, Int.reduceSub, Nat.reduceLeDiff, Nat.reduceLT]
    rw [ldAx (a := { a with size := hdS (A.w (slA a.w)), pc := 2 }) hd (show sub _ 11 1 false = some (.int .i64 a.seen) from rfl), c_Aend hd]
    exact behind hN hd hk
   ·rw [if_neg (by rintro (q | q); exact c1 q; exact c2 q)] at hk
    simp only [c2, w_ab_j3, w_ab_j3b, w_ab_j1, w_ab_j1b, ruS, ruL, ruE, Nat.reduceAdd, reduceIte, Int.reduceLT, Int.reduceLE, Int.reduceEq, Int.reduceNeg, Int.reduceAdd, Int.reduceSub, Nat.reduceLeDiff, Nat.reduceLT]
    exact behind hN hd hk
 ·rw [if_pos e] at hk
  have e' : (hdO (A.w (slA a.w)) == a.own) = false := by simpa using e
  simp only [e', xNeBB, ruS, ruL, ruE, Nat.reduceAdd, reduceIte, Int.reduceLT, Int.reduceLE, Int.reduceEq, Int.reduceNeg, Int.reduceAdd, Int.reduceSub, Nat.reduceLeDiff, Nat.reduceLT]
  rw [c_Now, c_Aend hd]
  exact behind hN hd hk
end Go.Fl
namespace Go.Fl
open Go
set_option linter.unusedVariables false
set_option linter.unusedSimpArgs false
variable {N : Nm} {A B : Ar} {σ : Mem} {K : Value → Mem → Prop} {C : Cf} {who : Int}
theorem c_Ac2 (hN : N.ok) (hC : C.ok) (hA : isA N A σ) {p : Nat} {a : Ac} (hp : σ.get p = some ⟨a.l, true⟩) (hd : p ∉ N.l) (hw : ∀ i, 0 ≤ A.w i ∧ A.w i < 18446744073709551616) (hf : a.fit C A) (h : a.pc = 2)
  (k0 : (a.step C who A).2.1.pc ≠ 4 → ∀ τ, isA N (a.step C who A).2.2 τ → τ.get p = some ⟨(a.step C who A).2.1.l, true⟩ → Keep (p :: N.l) σ τ → K (.bool (a.step C who A).1) τ)
  (k1 : (a.step C who A).2.1.pc = 4 → ∀ q τ, σ.get q = none → q ≠ p → isA N (a.step C who A).2.2 τ → τ.get p = some ⟨({ (a.step C who A).2.1 with help := some q } : Ac).l, true⟩ → τ.get q = some ⟨(Hl.new a.hs a.w a.size).l, true⟩ → Keep (p :: N.l) σ τ → K (.bool (a.step C who A).1) τ) :
  s_ab [.pointer (some ⟨p, 0, none⟩), N.env C who] K σ := by
 have hbd := hf.bd
 have h2 := hf.a2 (.inl h)
 have h3 := hf.w
 have hwa := hw a.at'
 rw [hA.obj hp]
 unfold Ac.step at k0 k1
 rw [if_neg (by omega), if_neg (by omega), if_pos h] at k0 k1
 simp only [s_ab, w_ab, ruS, ruL, ruE, Nat.reduceAdd, reduceIte, Int.reduceLT, Int.reduceLE, Int.reduceEq, Int.reduceNeg, Int.reduceAdd, Int.reduceSub, Nat.reduceLeDiff, Nat.reduceLT]
 rw [ldAx hd (show sub _ 8 1 false = some (.int .i64 a.pc) from rfl)]
 simp only [h, ruS, ruL, ruE, Nat.reduceAdd, reduceIte, Int.reduceLT, Int.reduceLE, Int.reduceEq, Int.reduceNeg, Int.reduceAdd, Int.reduceSub, Nat.reduceLeDiff, Nat.reduceLT]
 rw [c_Aat hd h3 (by omega), c_Load hN h2.1 h2.2, stAx { a with cell := A.w a.at' } hd rfl rfl (by decide) rfl, c_Now, c_Anext (a := { a with cell := A.w a.at' }) hd h3 hwa]
 rw [stAx { a with cell := A.w a.at', rd := ((A.by who).load a.at').s } hd rfl rfl (by decide) rfl]
 rw [stAx { a with cell := A.w a.at', rd := ((A.by who).load a.at').s, pc := ({ a with cell := A.w a.at' } : Ac).nxt } hd rfl rfl (by decide) rfl]
 rw [ldAx (a := { a with cell := A.w a.at', rd := ((A.by who).load a.at').s, pc := ({ a with cell := A.w a.at' } : Ac).nxt }) hd (show sub _ 8 1 false = some (.int .i64 ({ a with cell := A.w a.at' } : Ac).nxt) from rfl)]
 by_cases e : ({ a with cell := A.w a.at' } : Ac).nxt = 4
 ·replace k1 := k1 e
  simp only [e, ruS, ruL, ruE, Nat.reduceAdd, reduceIte, Int.reduceLT, Int.reduceLE, Int.reduceEq, Int.reduceNeg, Int.reduceAdd, Int.reduceSub, Nat.reduceLeDiff, Nat.reduceLT]
  rw [e] at k1
  rw [ldAx (a := { a with cell := A.w a.at', rd := ((A.by who).load a.at').s, pc := 4 }) hd (show sub _ 6 1 false = some (.int .i64 a.hs) from rfl), ldAx (a := { a with cell := A.w a.at', rd := ((A.by who).load a.at').s, pc := 4 }) hd (show sub _ 9 1 false = some (.int .u64 a.w) from rfl),
   ldAx (a := { a with cell := A.w a.at', rd := ((A.by who).load a.at').s, pc := 4 }) hd (show sub _ 13 1 false = some (.int .i64 a.size) from rfl)]
  refine behind (K := fun _ σ => s_au [.int .i64 a.hs, .int .u64 a.w, .int .i64 a.size] _ σ) (v := undef) hN hd fun υ u1 u2 u3 => ?_
  refine c_NewHelp fun id ω hid gid x => ?_
  have hx1 := u1.ext x
  have hx2 := x _ _ u2
  have ip : id ≠ p := by rintro rfl; rw [u2] at hid; cases hid
  have inn := u1.new hid
  have ids : σ.get id = none := by
   cases e : σ.get id with
   | none => rfl
   | some b => rw [u3 id b e (by simp only [List.mem_cons, not_or]; exact ⟨ip, inn⟩)] at hid; cases hid
  rw [hx1.obj hx2, stAx { a with cell := A.w a.at', rd := ((A.by who).load a.at').s, pc := 4, help := some id } hd rfl rfl (by decide) rfl]
  simp only [w_ab_j1, w_ab_j1b, ruS, ruL, ruE, Nat.reduceAdd, reduceIte, Int.reduceLT, Int.reduceLE, Int.reduceEq, Int.reduceNeg, Int.reduceAdd, Int.reduceSub, Nat.reduceLeDiff, Nat.reduceLT]
  refine behind hN hd fun ρ r1 r2 r3 => k1 id ρ ids ip r1 r2 ?_ ((u3.trans x.keep).trans r3)
  exact r3 id _ gid (by simp only [List.mem_cons, not_or]; exact ⟨ip, inn⟩)
 ·replace k0 := k0 e
  simp only [e, w_ab_j1, w_ab_j1b, ruS, ruL, ruE, Nat.reduceAdd, reduceIte, Int.reduceLT, Int.reduceLE, Int.reduceEq, Int.reduceNeg, Int.reduceAdd, Int.reduceSub, Nat.reduceLeDiff, Nat.reduceLT]
  exact behind hN hd k0
theorem c_Ac3 (hN : N.ok) (hC : C.ok) (hA : isA N A σ) {p : Nat} {a : Ac} (hp : σ.get p = some ⟨a.l, true⟩) (hd : p ∉ N.l) (hn : C.len ≤ A.n) (hf : a.fit C A) (h : a.pc = 3)
  (hk : ∀ τ, isA N (a.step C who A).2.2 τ → τ.get p = some ⟨(a.step C who A).2.1.l, true⟩ → Keep (p :: N.l) σ τ → K (.bool (a.step C who A).1) τ) :
  s_ab [.pointer (some ⟨p, 0, none⟩), N.env C who] K σ := by
 have hT := hC.T; have hS := hC.S; have hC3 := hC.C; have hl := len_bd hC
 have hch : C.chunk C.C = 6 + C.T + 2 * C.S + 3 * C.C := rfl
 have h3 := hf.w
 have h2 := hf.hs
 have hV := slV_bd a.w
 have hsb : 0 ≤ C.slot a.hs ∧ C.slot a.hs < A.n := by unfold Cf.slot; omega
 have g4 : ∀ (k : Nat) (x y z w x' y' z' w' : Int), gStore 4 [.pointer (some ⟨k, 0, some 0⟩), .agg #[.int .i64 x, .int .i64 y, .int .i64 z, .int .i64 w]] [.int .i64 x', .int .i64 y', .int .i64 z', .int .i64 w'] = some [.int .i64 x, .int .i64 y, .int .i64 z, .int .i64 w] := fun _ _ _ _ _ _ _ _ _ => rfl
 have g0 : ∀ (k : Nat) (v x' y' z' w' : Int), gStore 1 [.pointer (some ⟨k, 0, some 0⟩), .int .i64 v] [.int .i64 x', .int .i64 y', .int .i64 z', .int .i64 w'] = some [.int .i64 v, .int .i64 y', .int .i64 z', .int .i64 w'] := fun _ _ _ _ _ _ => rfl
 have g3 : ∀ (k : Nat) (v x' y' z' w' : Int), gStore 1 [.pointer (some ⟨k, 3, some 0⟩), .int .i64 v] [.int .i64 x', .int .i64 y', .int .i64 z', .int .i64 w'] = some [.int .i64 x', .int .i64 y', .int .i64 z', .int .i64 v] := fun _ _ _ _ _ _ => rfl
 rw [hA.obj hp]
 unfold Ac.step at hk
 rw [if_neg (by omega), if_neg (by omega), if_neg (by omega), if_pos h] at hk
 simp only [s_ab, w_ab, ruS, ruL, ruE, Nat.reduceAdd, reduceIte, Int.reduceLT, Int.reduceLE, Int.reduceEq, Int.reduceNeg, Int.reduceAdd, Int.reduceSub, Nat.reduceLeDiff, Nat.reduceLT]
 rw [ldAx hd (show sub _ 8 1 false = some (.int .i64 a.pc) from rfl)]
 simp only [h, ruS, ruL, ruE, Nat.reduceAdd, reduceIte, Int.reduceLT, Int.reduceLE, Int.reduceEq, Int.reduceNeg, Int.reduceAdd, Int.reduceSub, Nat.reduceLeDiff, Nat.reduceLT]
 rw [ldAx hd (show sub _ 9 1 false = some (.int .u64 a.w) from rfl), c_wSlot h3.1 h3.2]
 simp only [g4, g0, g3, ruS, ruL, ruE, Nat.reduceAdd, reduceIte, Int.reduceLT, Int.reduceLE, Int.reduceEq, Int.reduceNeg, Int.reduceAdd, Int.reduceSub, Nat.reduceLeDiff, Nat.reduceLT]
 rw [IntWalk.i64_in (slV a.w + 1) (by omega)]
 rw [ldAx hd (show sub _ 6 1 false = some (.int .i64 a.hs) from rfl), c_Slot hC h2.1 (by omega), ldAx hd (show sub _ 9 1 false = some (.int .u64 a.w) from rfl)]
 simp only [sub4, ruS, ruL, ruE, Nat.reduceAdd, reduceIte, Int.reduceLT, Int.reduceLE, Int.reduceEq, Int.reduceNeg, Int.reduceAdd, Int.reduceSub, Nat.reduceLeDiff, Nat.reduceLT]
 rw [c_PutSlot, c_Cas hN hsb.1 hsb.2, stAx { a with pc := 0 } hd rfl rfl (by decide) rfl]
 simp only [w_ab_j1, w_ab_j1b, ruS, ruL, ruE, Nat.reduceAdd, reduceIte, Int.reduceLT, Int.reduceLE, Int.reduceEq, Int.reduceNeg, Int.reduceAdd, Int.reduceSub, Nat.reduceLeDiff, Nat.reduceLT]
 exact behind hN hd hk
theorem c_Ac4 (hN : N.ok) (hC : C.ok) (hA : isA N A σ) {p q : Nat} {a : Ac} {t : Hl} (hp : σ.get p = some ⟨a.l, true⟩) (hd : p ∉ N.l) (hq : σ.get q = some ⟨[] ++ t.l ++ [], true⟩) (hqd : q ∉ N.l) (hqp : q ≠ p) (hw : ∀ i, 0 ≤ A.w i ∧ A.w i < 18446744073709551616) (hn : C.len ≤ A.n)
  (h : a.pc = 4) (ha : a.help = some q) (hf : t.fit C)
  (k0 : (t.step C who A).1 = false → ∀ τ, isA N (t.step C who A).2.2 τ → τ.get p = some ⟨a.l, true⟩ → τ.get q = some ⟨[] ++ (t.step C who A).2.1.l ++ [], true⟩ → Keep (q :: p :: N.l) σ τ → K (.bool false) τ)
  (k2 : (t.step C who A).1 = true → ∀ τ, isA N (t.step C who A).2.2 τ → τ.get p = some ⟨({ a with pc := 0 } : Ac).l, true⟩ → Keep (q :: p :: N.l) σ τ → K (.bool false) τ) :
  s_ab [.pointer (some ⟨p, 0, none⟩), N.env C who] K σ := by
 have hpL : ∀ i ∈ p :: N.l, i ∈ q :: p :: N.l := fun i hi => List.mem_cons_of_mem _ hi
 have hqL : ∀ i ∈ q :: N.l, i ∈ q :: p :: N.l := fun i hi => by rcases List.mem_cons.1 hi with rfl | hi <;> simp [*]
 rw [hA.obj hp]
 simp only [s_ab, w_ab, ruS, ruL, ruE, Nat.reduceAdd, reduceIte, Int.reduceLT, Int.reduceLE, Int.reduceEq, Int.reduceNeg, Int.reduceAdd, Int.reduceSub, Nat.reduceLeDiff, Nat.reduceLT]
 rw [ldAx hd (show sub _ 8 1 false = some (.int .i64 a.pc) from rfl)]
 simp only [h, ruS, ruL, ruE, Nat.reduceAdd, reduceIte, Int.reduceLT, Int.reduceLE, Int.reduceEq, Int.reduceNeg, Int.reduceAdd, Int.reduceSub, Nat.reduceLeDiff, Nat.reduceLT]
 rw [ldAx hd (show sub _ 14 1 false = some (obP a.help) from rfl), ha, obP_s, ← hA.obj hp]
 refine c_Help_Step hN hC hA (t := t) (pre := []) (post := []) hq hqd hw hn hf fun τ hA' hq' hK => ?_
 have hp' : τ.get p = some ⟨a.l, true⟩ := hK.get hp (by simp only [List.mem_cons, not_or]; exact ⟨fun e => hqp e.symm, hd⟩)
 have hK2 := hK.mono hqL
 generalize t.step C who A = r at *
 obtain ⟨d, t', A'⟩ := r
 dsimp only at *
 cases d with
 | false => simp only [w_ab_j1, w_ab_j1b, ruS, ruL, ruE, Nat.reduceAdd, reduceIte, Int.reduceLT, Int.reduceLE, Int.reduceEq, Int.reduceNeg, Int.reduceAdd, Int.reduceSub, Nat.reduceLeDiff, Nat.reduceLT]; exact k0 rfl τ hA' hp' hq' hK2
 | true =>
  simp only [ruS, ruL, ruE, Nat.reduceAdd, reduceIte, Int.reduceLT, Int.reduceLE, Int.reduceEq, Int.reduceNeg, Int.reduceAdd, Int.reduceSub, Nat.reduceLeDiff, Nat.reduceLT]
  rw [hA'.obj hp', stAx { a with pc := 0 } hd rfl rfl (by decide) rfl]
  simp only [w_ab_j1, w_ab_j1b, ruS, ruL, ruE, Nat.reduceAdd, reduceIte, Int.reduceLT, Int.reduceLE, Int.reduceEq, Int.reduceNeg, Int.reduceAdd, Int.reduceSub, Nat.reduceLeDiff, Nat.reduceLT]
  exact behind hN hd fun υ u1 u2 u3 => k2 rfl υ u1 u2 (hK2.trans (u3.mono hpL))
theorem c_Ac5 (hN : N.ok) (hC : C.ok) (hA : isA N A σ) {p : Nat} {a : Ac} (hp : σ.get p = some ⟨a.l, true⟩) (hd : p ∉ N.l) (hf : a.fit C A) (h : a.pc = 5)
  (hk : ∀ τ, isA N (a.step C who A).2.2 τ → τ.get p = some ⟨(a.step C who A).2.1.l, true⟩ → Keep (p :: N.l) σ τ → K (.bool (a.step C who A).1) τ) :
  s_ab [.pointer (some ⟨p, 0, none⟩), N.env C who] K σ := by
 have hbd := hf.bd
 have h2 := hf.a2 (.inr h)
 have h3 := hf.w
 have h4 := hf.cell
 have b3 : ∀ (x : Int) (K : Value → Prop), xF (fBuild [(0, 1), (1, 1), (2, 1)] [.int .i64 0, .bool false, .int .i64 0] [0]) [.int .i64 x] K = K (.agg #[.int .i64 x, .bool false, .int .i64 0]) := fun _ K => nr rfl
 rw [hA.obj hp]
 unfold Ac.step at hk
 rw [if_neg (by omega), if_neg (by omega), if_neg (by omega), if_neg (by omega), if_pos h] at hk
 simp only [s_ab, w_ab, ruS, ruL, ruE, Nat.reduceAdd, reduceIte, Int.reduceLT, Int.reduceLE, Int.reduceEq, Int.reduceNeg, Int.reduceAdd, Int.reduceSub, Nat.reduceLeDiff, Nat.reduceLT]
 rw [ldAx hd (show sub _ 8 1 false = some (.int .i64 a.pc) from rfl)]
 simp only [h, ruS, ruL, ruE, Nat.reduceAdd, reduceIte, Int.reduceLT, Int.reduceLE, Int.reduceEq, Int.reduceNeg, Int.reduceAdd, Int.reduceSub, Nat.reduceLeDiff, Nat.reduceLT]
 rw [stAx { a with pc := 0 } hd rfl rfl (by decide) rfl, c_Aat (a := { a with pc := 0 }) hd h3 (by show 0 ≤ a.at' ∧ a.at' < _; omega)]
 rw [ldAx (a := { a with pc := 0 }) hd (show sub _ 10 1 false = some (.int .u64 a.cell) from rfl), ldAx (a := { a with pc := 0 }) hd (show sub _ 3 1 false = some (.int .i64 a.v) from rfl), b3, c_PutCell]
 rw [show ({ a with pc := 0 } : Ac).at' = a.at' from rfl, c_Cas hN h2.1 h2.2]
 by_cases e : A.w a.at' = a.cell
 ·rw [if_pos e] at hk
  simp only [e, ruS, ruL, ruE, Nat.reduceAdd, reduceIte, Int.reduceLT, Int.reduceLE, Int.reduceEq, Int.reduceNeg, Int.reduceAdd, Int.reduceSub, Nat.reduceLeDiff, Nat.reduceLT]
  rw [ldAx (a := { a with pc := 0 }) hd (show sub _ 10 1 false = some (.int .u64 a.cell) from rfl), c_wCell h4.1 h4.2]
  simp only [xFldV, List.toList_toArray, ruS, ruL, ruE, Nat.reduceAdd, reduceIte, Int.reduceLT, Int.reduceLE, Int.reduceEq, Int.reduceNeg, Int.reduceAdd, Int.reduceSub, Nat.reduceLeDiff, Nat.reduceLT]
  rw [c_Now, c_Aend hd]
  exact behind hN hd hk
 ·rw [if_neg e] at hk
  simp only [e, w_ab_j1, w_ab_j1b, ruS, ruL, ruE, Nat.reduceAdd, reduceIte, Int.reduceLT, Int.reduceLE, Int.reduceEq, Int.reduceNeg, Int.reduceAdd, Int.reduceSub, Nat.reduceLeDiff, Nat.reduceLT]
  exact behind hN hd hk
theorem c_Ac6 (hN : N.ok) (hC : C.ok) (hA : isA N A σ) {p : Nat} {a : Ac} (hp : σ.get p = some ⟨a.l, true⟩) (hd : p ∉ N.l) (hw : ∀ i, 0 ≤ A.w i ∧ A.w i < 18446744073709551616) (hn : C.len ≤ A.n) (hf : a.fit C A) (h : a.pc = 6)
  (hk : ∀ τ, isA N (a.step C who A).2.2 τ → τ.get p = some ⟨(a.step C who A).2.1.l, true⟩ → Keep (p :: N.l) σ τ → K (.bool (a.step C who A).1) τ) :
  s_ab [.pointer (some ⟨p, 0, none⟩), N.env C who] K σ := by
 have hT := hC.T; have hS := hC.S; have hC3 := hC.C; have hl := len_bd hC
 have hch : C.chunk C.C = 6 + C.T + 2 * C.S + 3 * C.C := rfl
 have h2 := hf.hs
 have h3 := hf.w
 have h4 := hf.cell
 have hsb : 0 ≤ C.slot a.hs ∧ C.slot a.hs < A.n := by unfold Cf.slot; omega
 have hwa := hw (C.slot a.hs)
 have g4 : ∀ (k : Nat) (x y z w x' y' z' w' : Int), gStore 4 [.pointer (some ⟨k, 0, some 0⟩), .agg #[.int .i64 x, .int .i64 y, .int .i64 z, .int .i64 w]] [.int .i64 x', .int .i64 y', .int .i64 z', .int .i64 w'] = some [.int .i64 x, .int .i64 y, .int .i64 z, .int .i64 w] := fun _ _ _ _ _ _ _ _ _ => rfl
 rw [hA.obj hp]
 unfold Ac.step at hk
 rw [if_neg (by omega), if_neg (by omega), if_neg (by omega), if_neg (by omega), if_neg (by omega)] at hk
 simp only [s_ab, w_ab, ruS, ruL, ruE, Nat.reduceAdd, reduceIte, Int.reduceLT, Int.reduceLE, Int.reduceEq, Int.reduceNeg, Int.reduceAdd, Int.reduceSub, Nat.reduceLeDiff, Nat.reduceLT]
 rw [ldAx hd (show sub _ 8 1 false = some (.int .i64 a.pc) from rfl)]
 simp only [h, s_ad, w_ad, ruS, ruL, ruE, Nat.reduceAdd, reduceIte, Int.reduceLT, Int.reduceLE, Int.reduceEq, Int.reduceNeg, Int.reduceAdd, Int.reduceSub, Nat.reduceLeDiff, Nat.reduceLT]
 rw [ldAx hd (show sub _ 6 1 false = some (.int .i64 a.hs) from rfl), c_Slot hC h2.1 (by omega), c_Load hN hsb.1 hsb.2, c_wSlot hwa.1 hwa.2]
 simp only [g4, ruS, ruL, ruE, Nat.reduceAdd, reduceIte, Int.reduceLT, Int.reduceLE, Int.reduceEq, Int.reduceNeg, Int.reduceAdd, Int.reduceSub, Nat.reduceLeDiff, Nat.reduceLT]
 rw [ldAx hd (show sub _ 10 1 false = some (.int .u64 a.cell) from rfl), c_wCell h4.1 h4.2]
 simp only [xFldV, List.toList_toArray, sub4, ruS, ruL, ruE, Nat.reduceAdd, reduceIte, Int.reduceLT, Int.reduceLE, Int.reduceEq, Int.reduceNeg, Int.reduceAdd, Int.reduceSub, Nat.reduceLeDiff, Nat.reduceLT]
 rw [ldAx hd (show sub _ 6 2 true = some (.agg #[.int .i64 a.hs, .int .i64 a.hg]) from rfl), c_Live]
 by_cases hl' : lives (A.w (C.slot a.hs)) a.hg
 ·have e : decide ((slS (A.w (C.slot a.hs)) = 1 ∨ slS (A.w (C.slot a.hs)) = 2 ∨ slS (A.w (C.slot a.hs)) = 4) ∧ slG (A.w (C.slot a.hs)) = a.hg) = true := decide_eq_true hl'
  rw [if_pos hl'] at hk
  simp only [e, ruS, ruL, ruE, Nat.reduceAdd, reduceIte, Int.reduceLT, Int.reduceLE, Int.reduceEq, Int.reduceNeg, Int.reduceAdd, Int.reduceSub, Nat.reduceLeDiff, Nat.reduceLT]
  rw [ldAx hd (show sub _ 9 1 false = some (.int .u64 a.w) from rfl), c_wSlot h3.1 h3.2]
  simp only [xFldV, List.toList_toArray, ruS, ruL, ruE, Nat.reduceAdd, reduceIte, Int.reduceLT, Int.reduceLE, Int.reduceEq, Int.reduceNeg, Int.reduceAdd, Int.reduceSub, Nat.reduceLeDiff, Nat.reduceLT]
  by_cases c1 : slA (A.w (C.slot a.hs)) = slA a.w
  ·rw [if_pos c1] at hk
   simp only [c1, ne_eq, not_true_eq_false, ruS, ruL, ruE, Nat.reduceAdd, reduceIte, Int.reduceLT, Int.reduceLE, Int.reduceEq, Int.reduceNeg, Int.reduceAdd, Int.reduceSub, Nat.reduceLeDiff, Nat.reduceLT]
   rw [ldAx hd (show sub _ 0 1 false = some (.int .i64 a.kd) from rfl)]
   by_cases c2 : a.kd = 3
   ·rw [if_pos c2] at hk
    simp only [c2, ruS, ruL, ruE, Nat.reduceAdd, reduceIte, Int.reduceLT, Int.reduceLE, Int.reduceEq, Int.reduceNeg, Int.reduceAdd, Int.reduceSub, Nat.reduceLeDiff, Nat.reduceLT]
    rw [ldAx hd (show sub _ 12 1 false = some (.int .i64 a.rd) from rfl), c_Aend hd]
    exact behind hN hd hk
   ·rw [if_neg c2] at hk
    simp only [c2, ruS, ruL, ruE, Nat.reduceAdd, reduceIte, Int.reduceLT, Int.reduceLE, Int.reduceEq, Int.reduceNeg, Int.reduceAdd, Int.reduceSub, Nat.reduceLeDiff, Nat.reduceLT]
    rw [ldAx hd (show sub _ 12 1 false = some (.int .i64 a.rd) from rfl), c_Aend hd]
    exact behind hN hd hk
  ·rw [if_neg c1] at hk
   simp only [c1, ne_eq, not_false_eq_true, ruS, ruL, ruE, Nat.reduceAdd, reduceIte, Int.reduceLT, Int.reduceLE, Int.reduceEq, Int.reduceNeg, Int.reduceAdd, Int.reduceSub, Nat.reduceLeDiff, Nat.reduceLT]
   rw [stAx { a with pc := 0 } hd rfl rfl (by decide) rfl]
   exact behind hN hd hk
 ·have e : decide ((slS (A.w (C.slot a.hs)) = 1 ∨ slS (A.w (C.slot a.hs)) = 2 ∨ slS (A.w (C.slot a.hs)) = 4) ∧ slG (A.w (C.slot a.hs)) = a.hg) = false := decide_eq_false hl'
  rw [if_neg hl'] at hk
  simp only [e, ruS, ruL, ruE, Nat.reduceAdd, reduceIte, Int.reduceLT, Int.reduceLE, Int.reduceEq, Int.reduceNeg, Int.reduceAdd, Int.reduceSub, Nat.reduceLeDiff, Nat.reduceLT]
  rw [c_Now, c_Aend hd]
  exact behind hN hd hk
end Go.Fl
namespace Go.Fl
open Go
set_option linter.unusedVariables false
set_option linter.unusedSimpArgs false
variable {N : Nm} {A B : Ar} {σ : Mem} {K : Value → Mem → Prop} {C : Cf} {who : Int}
structure Ak where
 a : Ac
 h : Hl
def Ak.new (kd n ix v old : Int) (own : Bool) : Ak := ⟨Ac.new kd n ix v old own, Hl.new 0 0 0⟩
def Ak.step (C : Cf) (who : Int) (A : Ar) (m : Ak) : Bool × Ak × Ar :=
 if m.a.pc = 4 then
  if (m.h.step C who A).1 = true then (false, { m with a := { m.a with pc := 0 } }, (m.h.step C who A).2.2) else (false, { m with h := (m.h.step C who A).2.1 }, (m.h.step C who A).2.2)
 else ((m.a.step C who A).1, ⟨(m.a.step C who A).2.1, if m.a.pc = 2 then Hl.new m.a.hs m.a.w m.a.size else m.h⟩, (m.a.step C who A).2.2)
structure Ak.fit (C : Cf) (A : Ar) (m : Ak) : Prop where
 a : m.a.fit C A
 h : m.a.pc = 4 → m.h.fit C
def Ac.wh (a : Ac) (x : Option Nat) : Ac := { a with help := x }
theorem Ac.step_help {a : Ac} {x : Option Nat} : (a.wh x).step C who A = ((a.step C who A).1, (a.step C who A).2.1.wh x, (a.step C who A).2.2) := by
 obtain ⟨kd, n, ix, v, old, own, hs, hg, pc, w, cell, seen, rd, size, help, oE, oH, oV, oS⟩ := a
 unfold Ac.step Ac.wh Ac.at' Ac.fin Ac.nxt
 dsimp only
 repeat' split
 all_goals rfl
theorem Ac.step_pc {a : Ac} (h2 : a.pc ≠ 2) (h4 : a.pc ≠ 4) : (a.step C who A).2.1.pc ≠ 4 := by
 unfold Ac.step Ac.fin
 repeat' split
 all_goals (dsimp only; omega)
structure AOb (N : Nm) (p : Nat) (O : List Nat) (m : Ak) (τ : Mem) : Prop where
 obj : ∃ x, τ.get p = some ⟨(m.a.wh x).l, true⟩ ∧ (m.a.pc = 4 → ∃ q, x = some q ∧ q ∈ O ∧ q ≠ p ∧ τ.get q = some ⟨[] ++ m.h.l ++ [], true⟩)
 own : ∀ i ∈ O, i ∉ N.l
 p : p ∈ O
theorem AOb.keep {p : Nat} {O L : List Nat} {m : Ak} {τ : Mem} (h : AOb N p O m σ) (x : Keep L σ τ) (hL : ∀ i ∈ O, i ∉ L) : AOb N p O m τ := by
 obtain ⟨⟨a, h1, h2⟩, h4, h5⟩ := h
 refine ⟨⟨a, x.get h1 (hL p h5), fun e => ?_⟩, h4, h5⟩
 obtain ⟨q, q1, q2, q3, q4⟩ := h2 e; exact ⟨q, q1, q2, q3, x.get q4 (hL q q2)⟩
theorem c_Acc_Step (hN : N.ok) (hC : C.ok) (hA : isA N A σ) {p : Nat} {O : List Nat} {m : Ak} (hO : AOb N p O m σ) (hw : ∀ i, 0 ≤ A.w i ∧ A.w i < 18446744073709551616) (hn : C.len ≤ A.n) (hf : m.fit C A)
  (hk : ∀ O' τ, (∀ i ∈ O', i ∈ O ∨ σ.get i = none) → isA N (m.step C who A).2.2 τ → AOb N p O' (m.step C who A).2.1 τ → Keep (O ++ N.l) σ τ → K (.bool (m.step C who A).1) τ) : s_ab [.pointer (some ⟨p, 0, none⟩), N.env C who] K σ := by
 obtain ⟨⟨x, hp, h3⟩, own, pO⟩ := hO
 have hd := own p pO
 have k1 : ∀ {τ : Mem}, Keep (p :: N.l) σ τ → Keep (O ++ N.l) σ τ := fun k => k.mono fun i hi => by
  rcases List.mem_cons.1 hi with rfl | hi
  ·exact List.mem_append_left _ pO
  ·exact List.mem_append_right _ hi
 have same : ∀ i ∈ O, i ∈ O ∨ σ.get i = none := fun i hi => .inl hi
 have cons : ∀ {q : Nat}, σ.get q = none → ∀ i ∈ q :: O, i ∈ O ∨ σ.get i = none := fun h i hi => by rcases List.mem_cons.1 hi with rfl | hi; exact .inr h; exact .inl hi
 have ownc : ∀ {q : Nat}, q ∉ N.l → ∀ i ∈ q :: O, i ∉ N.l := fun h i hi => by rcases List.mem_cons.1 hi with rfl | hi; exact h; exact own i hi
 have hpc := hf.a.pc
 have hfx : (m.a.wh x).fit C A := ⟨hf.a.pc, hf.a.n, hf.a.hs, hf.a.w, hf.a.cell, hf.a.a1, hf.a.a2, hf.a.bd⟩
 have hpx : (m.a.wh x).pc = m.a.pc := rfl
 by_cases c4 : m.a.pc = 4
 ·unfold Ak.step at hk
  rw [if_pos c4] at hk
  obtain ⟨q, rfl, qO, qp, gq⟩ := h3 c4
  have k2 : ∀ {τ : Mem}, Keep (q :: p :: N.l) σ τ → Keep (O ++ N.l) σ τ := fun k => k.mono fun i hi => by
   rcases List.mem_cons.1 hi with rfl | hi
   ·exact List.mem_append_left _ qO
   ·rcases List.mem_cons.1 hi with rfl | hi
    ·exact List.mem_append_left _ pO
    ·exact List.mem_append_right _ hi
  refine c_Ac4 hN hC hA (a := m.a.wh (some q)) (t := m.h) hp hd gq (own q qO) qp hw hn c4 rfl (hf.h c4) (fun d τ u1 u2 u3 u4 => ?_) (fun d τ u1 u2 u3 => ?_)
  ·rw [if_neg (by rw [d]; decide)] at hk
   exact hk O τ same u1 ⟨⟨some q, u2, fun _ => ⟨q, rfl, qO, qp, u3⟩⟩, own, pO⟩ (k2 u4)
  ·rw [if_pos d] at hk
   exact hk O τ same u1 ⟨⟨some q, u2, fun e => by dsimp only at e; omega⟩, own, pO⟩ (k2 u3)
 unfold Ak.step at hk
 rw [if_neg c4] at hk
 by_cases c2 : m.a.pc = 2
 ·rw [if_pos c2] at hk
  have e := Ac.step_help (C := C) (who := who) (A := A) (a := m.a) (x := x)
  refine c_Ac2 hN hC hA (a := m.a.wh x) (who := who) hp hd hw hfx c2 ?_ ?_
  ·rw [e]
   intro c τ u1 u2 u3
   exact hk O τ same u1 ⟨⟨x, u2, fun q => absurd q c⟩, own, pO⟩ (k1 u3)
  ·rw [e]
   intro c q τ q1 q2 u1 u2 u3 u4
   exact hk (q :: O) τ (cons q1) u1 ⟨⟨some q, u2, fun _ => ⟨q, rfl, List.mem_cons_self .., q2, by rw [List.nil_append, List.append_nil]; exact u3⟩⟩, ownc (hA.new q1), List.mem_cons_of_mem _ pO⟩ (k1 u4)
 rw [if_neg c2] at hk
 have np := Ac.step_pc (C := C) (who := who) (A := A) c2 c4
 have hk' : ∀ τ, isA N ((m.a.wh x).step C who A).2.2 τ → τ.get p = some ⟨((m.a.wh x).step C who A).2.1.l, true⟩ → Keep (p :: N.l) σ τ → K (.bool ((m.a.wh x).step C who A).1) τ := by
  rw [Ac.step_help]
  intro τ u1 u2 u3
  exact hk O τ same u1 ⟨⟨x, u2, fun q => absurd q np⟩, own, pO⟩ (k1 u3)
 rcases (show m.a.pc = 0 ∨ m.a.pc = 1 ∨ m.a.pc = 3 ∨ m.a.pc = 5 ∨ m.a.pc = 6 by omega) with c | c | c | c | c
 ·exact c_Ac0 hN hC hA hp hd hw hn hfx c hk'
 ·exact c_Ac1 hN hC hA hp hd hw hfx c hk'
 ·exact c_Ac3 hN hC hA hp hd hn hfx c hk'
 ·exact c_Ac5 hN hC hA hp hd hfx c hk'
 ·exact c_Ac6 hN hC hA hp hd hw hn hfx c hk'
theorem AOb.done {p : Nat} {O : List Nat} {m : Ak} (hA : isA N A σ) (h : AOb N p O m σ) (hk : K (.agg #[.int .i64 m.a.oE, .int .u64 m.a.oH, .int .i64 m.a.oV, .int .i64 m.a.oS]) σ) : s_aa [.pointer (some ⟨p, 0, none⟩)] K σ := by
 obtain ⟨⟨x, hp, _⟩, own, pO⟩ := h
 exact c_AccDone hA (a := m.a.wh x) hp hk
theorem aob_new {kd n ix v old : Int} {o : Bool} (hA : isA N A σ) (hk : ∀ p τ, σ.get p = none → AOb N p [p] (Ak.new kd n ix v old o) τ → Ext σ τ → K (.pointer (some ⟨p, 0, none⟩)) τ) : s_ag [.agg #[.int .i64 kd, .int .u64 n, .int .i64 ix, .int .i64 v, .int .i64 old], .bool o] K σ := by
 refine c_AccNew fun p τ hp gp x => hk p τ hp ⟨⟨none, gp, (fun e => by cases e)⟩, fun i hi => ?_, List.mem_singleton.2 rfl⟩ x
 rw [List.mem_singleton.1 hi]; exact hA.new hp
theorem c_Acc (hN : N.ok) (hC : C.ok) (hA : isA N A σ) {kd n ix v old : Int} {o : Bool} (I : Int → Ak → Ar → Prop) (D : Ak → Ar → Prop) (h0 : I 0 (Ak.new kd n ix v old o) A)
  (hs : ∀ k m A, 0 ≤ k → k < 200 → I k m A → m.fit C A ∧ (∀ i, 0 ≤ A.w i ∧ A.w i < 18446744073709551616) ∧ C.len ≤ A.n ∧ if (m.step C who A).1 = true then D (m.step C who A).2.1 (m.step C who A).2.2 else I (k + 1) (m.step C who A).2.1 (m.step C who A).2.2)
  (he : ∀ m A, I 200 m A → D m A) (hk : ∀ m A' τ, D m A' → isA N A' τ → Keep N.l σ τ → K (.agg #[.int .i64 m.a.oE, .int .u64 m.a.oH, .int .i64 m.a.oV, .int .i64 m.a.oS]) τ) :
  s_ay [N.env C who, .agg #[.int .i64 kd, .int .u64 n, .int .i64 ix, .int .i64 v, .int .i64 old], .bool o] K σ := by
 have gs : ∀ x y z w : Int, gStore 4 [.pointer (some ⟨6, 0, some 0⟩), .agg #[.int .i64 x, .int .u64 y, .int .i64 z, .int .i64 w]] [.int .i64 0, .int .u64 0, .int .i64 0, .int .i64 0] = some [.int .i64 x, .int .u64 y, .int .i64 z, .int .i64 w] := fun _ _ _ _ => rfl
 have g : gBox 5 [.agg #[.int .i64 kd, .int .u64 n, .int .i64 ix, .int .i64 v, .int .i64 old]] [] = some [.int .i64 kd, .int .u64 n, .int .i64 ix, .int .i64 v, .int .i64 old] := rfl
 have s5 : ∀ x y z u w : Value, sub [x, y, z, u, w] 0 5 true = some (.agg #[x, y, z, u, w]) := fun _ _ _ _ _ => rfl
 simp only [s_ay, w_ay, g, s5, ruS, ruL, ruE, Nat.reduceAdd, reduceIte, Int.reduceLT, Int.reduceLE, Int.reduceEq, Int.reduceNeg, Int.reduceAdd, Int.reduceSub, Nat.reduceLeDiff, Nat.reduceLT]
 refine aob_new hA fun p τ0 hp ho x0 => ?_
 have fin : ∀ m A' τ, D m A' → isA N A' τ → (∃ O, AOb N p O m τ) → Keep N.l σ τ → w_ay_j1 K [.pointer (some ⟨p, 0, none⟩)] [[.int .i64 0, .int .u64 0, .int .i64 0, .int .i64 0]] τ := by
  rintro m A' τ hD hA' ⟨O, hO⟩ hK
  simp only [w_ay_j1, w_ay_j1b, ruS, ruL, ruE, Nat.reduceAdd, reduceIte, Int.reduceLT, Int.reduceLE, Int.reduceEq, Int.reduceNeg, Int.reduceAdd, Int.reduceSub, Nat.reduceLeDiff, Nat.reduceLT]
  refine AOb.done hA' hO ?_
  simp only [gs, sub4, ruS, ruL, ruE, Nat.reduceAdd, reduceIte, Int.reduceLT, Int.reduceLE, Int.reduceEq, Int.reduceNeg, Int.reduceAdd, Int.reduceSub, Nat.reduceLeDiff, Nat.reduceLT]
  exact hk m A' τ hD hA' hK
 refine xLoop_i (fun i => [.pointer (some ⟨p, 0, none⟩), .int .i64 i]) [N.el C who, [.int .i64 0, .int .u64 0, .int .i64 0, .int .i64 0]] 200
  (fun i τ => ∃ m A' O, 0 ≤ i ∧ i ≤ 200 ∧ isA N A' τ ∧ I i m A' ∧ AOb N p O m τ ∧ (∀ j ∈ O, σ.get j = none) ∧ Keep N.l σ τ) ?_ ⟨_, A, [p], by omega, by omega, hA.ext x0, h0, ho, fun j hj => by rw [List.mem_singleton.1 hj]; exact hp, x0.keep⟩
 rintro i τ ⟨m, A', O, i0, i1, hA', hI, hO, hOn, hK⟩ R hR
 simp only [w_law10_Do_l4, w_law10_Do_l4b, ruS, ruL, ruE, Nat.reduceAdd, reduceIte, Int.reduceLT, Int.reduceLE, Int.reduceEq, Int.reduceNeg, Int.reduceAdd, Int.reduceSub, Nat.reduceLeDiff, Nat.reduceLT]
 by_cases ci : i < 200
 ·simp only [ci, ruS, ruL, ruE, Nat.reduceAdd, reduceIte, Int.reduceLT, Int.reduceLE, Int.reduceEq, Int.reduceNeg, Int.reduceAdd, Int.reduceSub, Nat.reduceLeDiff, Nat.reduceLT]
  obtain ⟨hf, hw, hn, hst⟩ := hs i m A' i0 ci hI
  refine c_Acc_Step hN hC hA' hO hw hn hf fun O' τ' hO' hA2 hO2 hK2 => ?_
  have hK3 : Keep N.l σ τ' := by
   intro j b hj hn'
   refine hK2 j b (hK j b hj hn') fun hm => ?_
   rcases List.mem_append.1 hm with h | h
   ·rw [hOn j h] at hj; cases hj
   ·exact hn' h
  have hOn' : ∀ j ∈ O', σ.get j = none := by
   intro j hj
   rcases hO' j hj with h | h
   ·exact hOn j h
   ·cases e : σ.get j with
    | none => rfl
    | some b => rw [hK j b e (hA'.new h)] at h; cases h
  generalize m.step C who A' = r at *
  obtain ⟨d, m', A2⟩ := r
  dsimp only at *
  cases d with
  | true =>
   simp only [ruS, ruL, ruE, Nat.reduceAdd, reduceIte, Int.reduceLT, Int.reduceLE, Int.reduceEq, Int.reduceNeg, Int.reduceAdd, Int.reduceSub, Nat.reduceLeDiff, Nat.reduceLT] at hst ⊢
   exact fin m' A2 τ' hst hA2 ⟨O', hO2⟩ hK3
  | false =>
   simp only [ruS, ruL, ruE, Nat.reduceAdd, reduceIte, Int.reduceLT, Int.reduceLE, Int.reduceEq, Int.reduceNeg, Int.reduceAdd, Int.reduceSub, Nat.reduceLeDiff, Nat.reduceLT] at hst ⊢
   rw [IntWalk.i64_in (i + 1) (by omega)]
   exact hR _ ci ⟨m', A2, O', by omega, by omega, hA2, hst, hO2, hOn', hK3⟩
 ·simp only [ci, ruS, ruL, ruE, Nat.reduceAdd, reduceIte, Int.reduceLT, Int.reduceLE, Int.reduceEq, Int.reduceNeg, Int.reduceAdd, Int.reduceSub, Nat.reduceLeDiff, Nat.reduceLT]
  have : i = 200 := by omega
  subst this
  exact fin m A' τ (he _ _ hI) hA' ⟨O, hO⟩ hK
end Go.Fl
namespace Go.Fl
open Go
set_option linter.unusedVariables false
set_option linter.unusedSimpArgs false
variable {N : Nm} {A B : Ar} {σ : Mem} {K : Value → Mem → Prop} {C : Cf} {who : Int}
theorem Ak.new_fit (hC : C.ok) {kd n ix v old : Int} {o : Bool} (hn : 0 ≤ n ∧ n < 18446744073709551616) (hb : (A.n : Int) ≤ 200000000) : (Ak.new kd n ix v old o).fit C A := by
 have hS := hC.S
 exact ⟨⟨⟨Int.le_refl 0, (by decide : (0 : Int) ≤ 6)⟩, hn, ⟨Int.le_refl 0, by show (0 : Int) < C.S; omega⟩, ⟨Int.le_refl 0, (by decide : (0 : Int) < 18446744073709551616)⟩, ⟨Int.le_refl 0, (by decide : (0 : Int) < 18446744073709551616)⟩, fun e => (by cases e), fun e => (by rcases e with e | e <;> cases e), hb⟩, fun e => (by cases e)⟩
end Go.Fl
namespace Go.Fl
open Go
set_option linter.unusedVariables false
set_option linter.unusedSimpArgs false
variable {N : Nm} {A B : Ar} {σ : Mem} {K : Value → Mem → Prop} {C : Cf} {who : Int}
structure Ol (C : Cf) (w : Int → Int) (n : Int) (own : Bool) (z a : Int) : Prop where
 nb : 0 ≤ n ∧ n < 18446744073709551616
 ok : hdOk n = true
 s : hdSl n < C.S
 st : slS (w (C.slot (hdSl n))) = 1
 ad : slA (w (C.slot (hdSl n))) = a
 ge : slG (w (C.slot (hdSl n))) = hdGe n
 hd : hdO (w a) = own ∧ hdS (w a) = z
 bd : C.base 0 ≤ a ∧ a + z < C.len
 z1 : 1 ≤ z
 cl : ∀ x, 0 ≤ x → x < z → ceF (w (a + 1 + x)) = false
def Looks (m : Ak) (c : Int) : Prop := m.a.kd = 1 ∨ m.a.kd = 3 ∧ ceV c ≠ m.a.old
def LvI (C : Cf) (A0 : Ar) (m0 : Ak) (z a k : Int) (m : Ak) (A : Ar) : Prop :=
 k = 0 ∧ m = m0 ∧ A = A0 ∨
 (A.w = A0.w ∧ A.s = A0.s + k ∧ A.n = A0.n ∧ (∀ bb, A0.ok bb → A.ok (bb + k))) ∧
  (m.a.kd = m0.a.kd ∧ m.a.n = m0.a.n ∧ m.a.ix = m0.a.ix ∧ m.a.v = m0.a.v ∧ m.a.old = m0.a.old ∧ m.a.own = m0.a.own ∧ m.a.hs = hdSl m0.a.n ∧ m.a.hg = hdGe m0.a.n ∧ m.a.w = A0.w (C.slot (hdSl m0.a.n))) ∧
  (k = 1 ∧ m.a.pc = 1 ∧ m.a.cell = 0 ∧ m.a.seen = A0.s + 1 ∨ (0 ≤ m0.a.ix ∧ m0.a.ix < z) ∧ (k = 2 ∧ m.a.pc = 2 ∧ m.a.cell = 0 ∨
   k = 3 ∧ m.a.cell = A0.w (a + 1 + m0.a.ix) ∧ m.a.rd = A0.s + 3 ∧ (m.a.pc = 5 ∧ ¬ Looks m0 m.a.cell ∨ m.a.pc = 6 ∧ Looks m0 m.a.cell)))
structure LvD (C : Cf) (A0 : Ar) (m0 : Ak) (z a : Int) (m : Ak) (A : Ar) : Prop where
  r : ¬ (0 ≤ m0.a.ix ∧ m0.a.ix < z) ∧ m.a.oE = 4 ∧ m.a.oV = 0 ∧ m.a.oS = A0.s + 1 ∧ A.s = A0.s + 2 ∧ A.w = A0.w ∨
    (0 ≤ m0.a.ix ∧ m0.a.ix < z) ∧ A.s = A0.s + 4 ∧ m.a.oV = ceV (A0.w (a + 1 + m0.a.ix)) ∧
      (Looks m0 (A0.w (a + 1 + m0.a.ix)) ∧ m.a.oE = (if m0.a.kd = 3 then 8 else 0) ∧ m.a.oS = A0.s + 3 ∧ A.w = A0.w ∨
       ¬ Looks m0 (A0.w (a + 1 + m0.a.ix)) ∧ m.a.oE = 0 ∧ m.a.oS = A0.s + 4 ∧ A.w = upd A0.w (a + 1 + m0.a.ix) (putCell m0.a.v false 0))
  h : m.a.oH = 0
  n : A.n = A0.n
  ok : ∀ bb, A0.ok bb → A.ok (bb + 4)
theorem LvI.step (hC : C.ok) {A0 : Ar} {k bb z a kd n ix v old : Int} {own : Bool} {m : Ak} (h : LvI C A0 (Ak.new kd n ix v old own) z a k m A) (ho : Ol C A0.w n own z a) (ok : A0.ok bb) (hb : bb < 4611686018427387904) (hl : C.len ≤ A0.n) (hb2 : (A0.n : Int) ≤ 200000000) :
  m.fit C A ∧ ((∀ i, 0 ≤ A.w i ∧ A.w i < 18446744073709551616) ∧ C.len ≤ A.n) ∧
  (((m.step C who A).1 = false ∧ LvI C A0 (Ak.new kd n ix v old own) z a (k + 1) (m.step C who A).2.1 (m.step C who A).2.2) ∨ ((m.step C who A).1 = true ∧ LvD C A0 (Ak.new kd n ix v old own) z a (m.step C who A).2.1 (m.step C who A).2.2)) := by
 have hT := hC.T
 have hS := hC.S
 have hCC := hC.C
 have hll := len_bd hC
 have hsl := hdSl_bd ho.nb.1
 have hos := ho.s
 have hbd := ho.bd
 have hz1 := ho.z1
 have hb0 : C.base 0 = 6 + C.T + 2 * C.S + 3 * C.C := by unfold Cf.base; omega
 have hsb : 0 ≤ C.slot (hdSl n) ∧ C.slot (hdSl n) < C.base 0 := by unfold Cf.slot; omega
 have hlv : lives (A0.w (C.slot (hdSl n))) (hdGe n) := ⟨.inl ho.st, ho.ge⟩
 have hn0 : (Ak.new kd n ix v old own).a.n = n := rfl
 have hk0 : (Ak.new kd n ix v old own).a.kd = kd := rfl
 have hi0 : (Ak.new kd n ix v old own).a.ix = ix := rfl
 have hv0 : (Ak.new kd n ix v old own).a.v = v := rfl
 have hd0 : (Ak.new kd n ix v old own).a.old = old := rfl
 have hw0 : (Ak.new kd n ix v old own).a.own = own := rfl
 rcases h with ⟨rfl, rfl, rfl⟩ | ⟨⟨ew, es, en, eo⟩, ⟨f1, f2, f3, f4, f5, f6, f7, f8, f9⟩, h⟩
 ·refine ⟨Ak.new_fit hC ho.nb hb2, ⟨ok.w, hl⟩, ?_⟩
  have p0 : (Ak.new kd n ix v old own).a.pc = 0 := rfl
  have a1 := aft_load (who := who) (A := A) (a := C.slot (hdSl n)) ok (by omega)
  have e0 : (Ak.new kd n ix v old own).step C who A = (((Ak.new kd n ix v old own).a.step C who A).1, ⟨((Ak.new kd n ix v old own).a.step C who A).2.1, (Ak.new kd n ix v old own).h⟩, ((Ak.new kd n ix v old own).a.step C who A).2.2) := by
   unfold Ak.step; rw [if_neg (by rw [p0]; decide), if_neg (by rw [p0]; decide)]
  have e : (Ak.new kd n ix v old own).a.step C who A = (false, { (Ak.new kd n ix v old own).a with hs := hdSl n, hg := hdGe n, w := A.w (C.slot (hdSl n)), seen := ((A.by who).load (C.slot (hdSl n))).s, pc := 1 }, (A.by who).load (C.slot (hdSl n))) := by
   unfold Ac.step; rw [if_pos p0, if_neg (by rw [hn0]; rintro (q | q); rw [ho.ok] at q; cases q; omega), if_pos (by rw [hn0]; exact hlv)]; rfl
  rw [e0, e]
  exact .inl ⟨rfl, .inr ⟨⟨rfl, a1.s, rfl, fun b2 o2 => a1.ok (by decide) o2 o2.w⟩, ⟨rfl, rfl, rfl, rfl, rfl, rfl, rfl, rfl, rfl⟩, .inl ⟨rfl, rfl, rfl, a1.s⟩⟩⟩
 rw [hk0] at f1; rw [hn0] at f2 f7 f8 f9; rw [hi0] at f3 h; rw [hv0] at f4; rw [hd0] at f5; rw [hw0] at f6
 have ok' := eo bb ok
 have hkk : 0 ≤ k ∧ k ≤ 3 := by rcases h with ⟨h, _⟩ | ⟨_, ⟨h, _⟩ | ⟨h, _⟩⟩ <;> omega
 have esa : slA m.a.w = a := by rw [f9]; exact ho.ad
 have eat : m.a.at' = a + 1 + ix := by unfold Ac.at'; rw [esa, f3]
 have hcell : 0 ≤ m.a.cell ∧ m.a.cell < 18446744073709551616 := by
  rcases h with ⟨_, _, h, _⟩ | ⟨_, ⟨_, _, h⟩ | ⟨_, h, _⟩⟩
  ·rw [h]; decide
  ·rw [h]; decide
  ·rw [h]; exact ok.w _
 have hfit : m.fit C A := by
  refine ⟨⟨?_, by rw [f2]; exact ho.nb, by rw [f7]; exact ⟨hsl.1.1, hos⟩, by rw [f9]; exact ok.w _, hcell, fun _ => by omega, fun e => ?_, by omega⟩, fun e => ?_⟩
  ·rcases h with ⟨_, h, _⟩ | ⟨_, ⟨_, h, _⟩ | ⟨_, _, _, ⟨h, _⟩ | ⟨h, _⟩⟩⟩ <;> omega
  ·rw [eat]
   rcases h with ⟨_, h, _⟩ | ⟨hi, _⟩ <;> omega
  ·rcases h with ⟨_, h, _⟩ | ⟨_, ⟨_, h, _⟩ | ⟨_, _, _, ⟨h, _⟩ | ⟨h, _⟩⟩⟩ <;> omega
 refine ⟨hfit, ⟨ok'.w, by omega⟩, ?_⟩
 rcases h with ⟨rfl, h1, h2, h3⟩ | ⟨hi, ⟨rfl, h1, h2⟩ | ⟨rfl, h1, h2, h3⟩⟩
 ·have a1 := aft_load (who := who) (A := A) (a := slA m.a.w) ok' (by omega)
  have e0 : m.step C who A = ((m.a.step C who A).1, ⟨(m.a.step C who A).2.1, m.h⟩, (m.a.step C who A).2.2) := by
   unfold Ak.step; rw [if_neg (by omega), if_neg (by omega)]
  have own' : ¬ hdO (A.w (slA m.a.w)) ≠ m.a.own := by rw [esa, ew, f6, ho.hd.1]; simp
  by_cases c : m.a.ix < 0 ∨ hdS (A.w (slA m.a.w)) ≤ m.a.ix
  ·have e : m.a.step C who A = (true, ({ m.a with size := hdS (A.w (slA m.a.w)), pc := 2 } : Ac).fin 4 0 m.a.seen, (A.by who).load (slA m.a.w)) := by
    unfold Ac.step; rw [if_neg (by omega), if_pos h1, if_neg own', if_pos c]
   rw [e0, e]
   rw [esa, ew, ho.hd.2, f3] at c
   exact .inr ⟨rfl, ⟨.inl ⟨by rw [hi0]; omega, rfl, rfl, h3, by have := a1.s; show ((A.by who).load (slA m.a.w)).s = _; omega, ew⟩, rfl, en, fun b2 o2 => ok_mono (a1.ok (by decide) (eo b2 o2) (eo b2 o2).w) (by omega)⟩⟩
  ·have e : m.a.step C who A = (false, { m.a with size := hdS (A.w (slA m.a.w)), pc := 2 }, (A.by who).load (slA m.a.w)) := by
    unfold Ac.step; rw [if_neg (by omega), if_pos h1, if_neg own', if_neg c]
   rw [e0, e]
   rw [esa, ew, ho.hd.2, f3] at c
   exact .inl ⟨rfl, .inr ⟨⟨ew, by have := a1.s; show ((A.by who).load (slA m.a.w)).s = _; omega, en, fun b2 o2 => by rw [show b2 + (1 + 1) = b2 + 1 + 1 by omega]; exact a1.ok (by decide) (eo b2 o2) (eo b2 o2).w⟩, ⟨f1, f2, f3, f4, f5, f6, f7, f8, f9⟩, .inr ⟨by rw [hi0]; omega, .inl ⟨rfl, rfl, h2⟩⟩⟩⟩
 ·have a1 := aft_load (who := who) (A := A) (a := m.a.at') ok' (by omega)
  have e0 : m.step C who A = ((m.a.step C who A).1, ⟨(m.a.step C who A).2.1, Hl.new m.a.hs m.a.w m.a.size⟩, (m.a.step C who A).2.2) := by
   unfold Ak.step; rw [if_neg (by omega), if_pos h1]
  have e : m.a.step C who A = (false, { m.a with cell := A.w m.a.at', rd := ((A.by who).load m.a.at').s, pc := ({ m.a with cell := A.w m.a.at' } : Ac).nxt }, (A.by who).load m.a.at') := by
   unfold Ac.step; rw [if_neg (by omega), if_neg (by omega), if_pos h1]
  rw [e0, e]
  have ecl : A.w m.a.at' = A0.w (a + 1 + ix) := by rw [eat, ew]
  have hce := ho.cl ix hi.1 hi.2
  have nx : ({ m.a with cell := A.w m.a.at' } : Ac).nxt = if m.a.kd = 1 ∨ m.a.kd = 3 ∧ ceV (A.w m.a.at') ≠ m.a.old then 6 else 5 := by
   unfold Ac.nxt
   dsimp only
   have hs1 : ¬ slS m.a.w = 4 := by rw [f9, ho.st]; decide
   rw [if_neg hs1, if_pos (show ceF (A.w m.a.at') = false ∨ ceN (A.w m.a.at') < slV m.a.w from .inl (by rw [ecl]; exact hce))]
  refine .inl ⟨rfl, .inr ⟨⟨ew, by have := a1.s; show ((A.by who).load m.a.at').s = _; omega, en, fun b2 o2 => by rw [show b2 + (2 + 1) = b2 + 2 + 1 by omega]; exact a1.ok (by decide) (eo b2 o2) (eo b2 o2).w⟩, ⟨f1, f2, f3, f4, f5, f6, f7, f8, f9⟩, .inr ⟨hi, .inr ⟨rfl, ecl, by have := a1.s; show ((A.by who).load m.a.at').s = _; omega, ?_⟩⟩⟩⟩
  show ({ m.a with cell := A.w m.a.at' } : Ac).nxt = 5 ∧ ¬ Looks _ (A.w m.a.at') ∨ ({ m.a with cell := A.w m.a.at' } : Ac).nxt = 6 ∧ Looks _ (A.w m.a.at')
  rw [nx, f1, f5]
  unfold Looks
  rw [hk0, hd0]
  by_cases c : kd = 1 ∨ kd = 3 ∧ ceV (A.w m.a.at') ≠ old
  ·rw [if_pos c]; exact .inr ⟨rfl, c⟩
  ·rw [if_neg c]; exact .inl ⟨rfl, c⟩
 ·have e0 : m.step C who A = ((m.a.step C who A).1, ⟨(m.a.step C who A).2.1, m.h⟩, (m.a.step C who A).2.2) := by
   unfold Ak.step; rw [if_neg (by rcases h3 with ⟨h, _⟩ | ⟨h, _⟩ <;> omega), if_neg (by rcases h3 with ⟨h, _⟩ | ⟨h, _⟩ <;> omega)]
  rcases h3 with ⟨hp, hq⟩ | ⟨hp, hq⟩
  ·have a1 := aft_cas (who := who) (A := A) (a := m.a.at') (o := m.a.cell) (v := putCell m.a.v false 0) ok' (by omega)
   have ec : A.w m.a.at' = m.a.cell := by rw [eat, ew, h1]
   rw [if_pos ec] at a1
   have e : m.a.step C who A = (true, ({ m.a with pc := 0 } : Ac).fin 0 (ceV m.a.cell) ((A.by who).cas m.a.at' m.a.cell (putCell m.a.v false 0)).s, (A.by who).cas m.a.at' m.a.cell (putCell m.a.v false 0)) := by
    unfold Ac.step; rw [if_neg (by omega), if_neg (by omega), if_neg (by omega), if_neg (by omega), if_pos hp, if_pos ec]
   rw [e0, e]
   refine .inr ⟨rfl, ⟨.inr ⟨hi, by have := a1.s; show ((A.by who).cas _ _ _).s = _; omega, by show ceV m.a.cell = _; rw [h1, hi0], .inr ⟨by rw [hi0, ← h1]; exact hq, rfl, by have := a1.s; show ((A.by who).cas _ _ _).s = _; omega, ?_⟩⟩, rfl, by show ((A.by who).cas _ _ _).n = _; rw [a1.n, en], fun b2 o2 => ?_⟩⟩
   ·show ((A.by who).cas _ _ _).w = _; rw [a1.w, ew, eat, hi0, hv0, f4]
   ·rw [show b2 + 4 = b2 + 3 + 1 by omega]
    exact a1.ok (by decide) (eo b2 o2) fun i => upd_cases (P := fun x => 0 ≤ x ∧ x < 18446744073709551616) (putCell_in _ _ _) (ok'.w i)
  ·have a1 := aft_load (who := who) (A := A) (a := C.slot m.a.hs) ok' (by omega)
   have l1 : lives (A.w (C.slot m.a.hs)) m.a.hg := by rw [f7, f8, ew]; exact hlv
   have l2 : slA (A.w (C.slot m.a.hs)) = slA m.a.w := by rw [f7, f9, ew]
   have e : m.a.step C who A = (true, m.a.fin (if m.a.kd = 3 then 8 else 0) (ceV m.a.cell) m.a.rd, (A.by who).load (C.slot m.a.hs)) := by
    unfold Ac.step; rw [if_neg (by omega), if_neg (by omega), if_neg (by omega), if_neg (by omega), if_neg (by omega), if_pos l1, if_pos l2]
   rw [e0, e]
   exact .inr ⟨rfl, ⟨.inr ⟨hi, by have := a1.s; show ((A.by who).load _).s = _; omega, by show ceV m.a.cell = _; rw [h1, hi0], .inl ⟨by rw [hi0, ← h1]; exact hq, by show (if m.a.kd = 3 then 8 else 0) = _; rw [f1, hk0], h2, ew⟩⟩, rfl, en, fun b2 o2 => by rw [show b2 + 4 = b2 + 3 + 1 by omega]; exact a1.ok (by decide) (eo b2 o2) (eo b2 o2).w⟩⟩
theorem c_AccL (hN : N.ok) (hC : C.ok) (hA : isA N A σ) {n bb z a kd ix v old : Int} {own : Bool} (ho : Ol C A.w n own z a) (ok : A.ok bb) (hb : bb < 4611686018427387904) (hl : C.len ≤ A.n) (hb2 : (A.n : Int) ≤ 200000000)
  (hk : ∀ m A' τ, LvD C A (Ak.new kd n ix v old own) z a m A' → isA N A' τ → Keep N.l σ τ → K (.agg #[.int .i64 m.a.oE, .int .u64 0, .int .i64 m.a.oV, .int .i64 m.a.oS]) τ) :
  s_ay [N.env C who, .agg #[.int .i64 kd, .int .u64 n, .int .i64 ix, .int .i64 v, .int .i64 old], .bool own] K σ := by
 refine c_Acc hN hC hA (LvI C A (Ak.new kd n ix v old own) z a) (LvD C A (Ak.new kd n ix v old own) z a) (.inl ⟨rfl, rfl, rfl⟩) (fun k m A' k0 k1 h => ?_) (fun m A' h => ?_) (fun m A' τ hD hA' hK => ?_)
 ·obtain ⟨q1, q2, q3⟩ := h.step (who := who) hC ho ok hb hl hb2
  refine ⟨q1, q2.1, q2.2, ?_⟩
  rcases q3 with ⟨d, h'⟩ | ⟨d, h'⟩
  ·rw [if_neg (by rw [d]; decide)]; exact h'
  ·rw [if_pos d]; exact h'
 ·rcases h with ⟨h, _⟩ | ⟨_, _, ⟨h, _⟩ | ⟨_, ⟨h, _⟩ | ⟨h, _⟩⟩⟩ <;> omega
 ·rw [hD.h]; exact hk m A' τ hD hA' hK
end Go.Fl
namespace Go.Fl
open Go
set_option linter.unusedVariables false
set_option linter.unusedSimpArgs false
variable {N : Nm} {A B : Ar} {σ : Mem} {K : Value → Mem → Prop} {C : Cf} {who : Int}
theorem ceF_lay {v : Int} : ceF (putCell v false 0) = false := decide_eq_false (by unfold putCell cl; simp only [Bool.false_eq_true, if_false]; omega)
theorem ceV_lay {v : Int} (h : 0 ≤ v ∧ v ≤ 1099511627775) : ceV (putCell v false 0) = v := (ce_put h (by decide)).1
theorem putCell_lay {v : Int} (h : 0 ≤ v ∧ v ≤ 1099511627775) : putCell v false 0 = v := by unfold putCell; simp only [Bool.false_eq_true, if_false]; exact cl_in h.1 h.2
def Lk (kd old c : Int) : Prop := kd = 1 ∨ kd = 3 ∧ ceV c ≠ old
instance {kd old c : Int} : Decidable (Lk kd old c) := by unfold Lk; infer_instance
structure Lo (C : Cf) (n : Int) (own : Bool) (z W kd ix v old : Int) (m : Ak) : Prop where
 f : m.a.kd = kd ∧ m.a.n = n ∧ m.a.ix = ix ∧ m.a.v = v ∧ m.a.old = old ∧ m.a.own = own
 hs : 0 ≤ m.a.hs ∧ m.a.hs < C.S
 w : 0 ≤ m.a.w ∧ m.a.w < 18446744073709551616
 cell : 0 ≤ m.a.cell ∧ m.a.cell < 18446744073709551616
 at' : m.a.pc = 0 ∨ (m.a.hs = hdSl n ∧ m.a.hg = hdGe n ∧ m.a.w = W) ∧ (m.a.pc = 1 ∨ (0 ≤ ix ∧ ix < z) ∧ (m.a.pc = 2 ∨ ceF m.a.cell = false ∧ (m.a.pc = 5 ∧ ¬ Lk kd old m.a.cell ∨ m.a.pc = 6 ∧ Lk kd old m.a.cell)))
inductive LoR (C : Cf) (who n : Int) (own : Bool) (z a W kd ix v old : Int) (A : Ar) (m : Ak) : Bool → Ak → Ar → Prop
 | see {m' : Ak} : m.a.pc = 0 → Lo C n own z W kd ix v old m' → m'.a.pc = 1 → m'.a.seen = A.s + 1 → LoR C who n own z a W kd ix v old A m false m' ((A.by who).load (C.slot (hdSl n)))
 | head {m' : Ak} : m.a.pc = 1 → Lo C n own z W kd ix v old m' → m'.a.pc = 2 → 0 ≤ ix ∧ ix < z → LoR C who n own z a W kd ix v old A m false m' ((A.by who).load a)
 | index {m' : Ak} : m.a.pc = 1 → ¬ (0 ≤ ix ∧ ix < z) → m'.a.oE = 4 ∧ m'.a.oH = 0 ∧ m'.a.oV = 0 ∧ m'.a.oS = m.a.seen → LoR C who n own z a W kd ix v old A m true m' ((A.by who).load a)
 | load {m' : Ak} : m.a.pc = 2 → 0 ≤ ix ∧ ix < z → Lo C n own z W kd ix v old m' → m'.a.cell = A.w (a + 1 + ix) → m'.a.rd = A.s + 1 → (m'.a.pc = 5 ∧ ¬ Lk kd old m'.a.cell ∨ m'.a.pc = 6 ∧ Lk kd old m'.a.cell) → LoR C who n own z a W kd ix v old A m false m' ((A.by who).load (a + 1 + ix))
 | lay {m' : Ak} : m.a.pc = 5 → 0 ≤ ix ∧ ix < z → ¬ Lk kd old m.a.cell → A.w (a + 1 + ix) = m.a.cell → m'.a.oE = 0 ∧ m'.a.oH = 0 ∧ m'.a.oV = ceV m.a.cell ∧ m'.a.oS = A.s + 1 → LoR C who n own z a W kd ix v old A m true m' ((A.by who).store (a + 1 + ix) (putCell v false 0))
 | again {m' : Ak} : m.a.pc = 5 → 0 ≤ ix ∧ ix < z → ¬ Lk kd old m.a.cell → A.w (a + 1 + ix) ≠ m.a.cell → Lo C n own z W kd ix v old m' → m'.a.pc = 0 → LoR C who n own z a W kd ix v old A m false m' ((A.by who).load (a + 1 + ix))
 | look {m' : Ak} : m.a.pc = 6 → 0 ≤ ix ∧ ix < z → Lk kd old m.a.cell → m'.a.oE = (if kd = 3 then 8 else 0) ∧ m'.a.oH = 0 ∧ m'.a.oV = ceV m.a.cell ∧ m'.a.oS = m.a.rd → LoR C who n own z a W kd ix v old A m true m' ((A.by who).load (C.slot (hdSl n)))
theorem Ol.lay (hC : C.ok) {w : Int → Int} {n z a x v : Int} {own : Bool} (h : Ol C w n own z a) (x0 : 0 ≤ x) (x1 : x < z) : Ol C (upd w (a + 1 + x) (putCell v false 0)) n own z a := by
 have hT := hC.T
 have hS := hC.S
 have hCC := hC.C
 have hsl := hdSl_bd h.nb.1
 have hos := h.s
 have hbd := h.bd
 have hb0 : C.base 0 = 6 + C.T + 2 * C.S + 3 * C.C := by unfold Cf.base; omega
 have e1 : upd w (a + 1 + x) (putCell v false 0) (C.slot (hdSl n)) = w (C.slot (hdSl n)) := upd_ne _ _ (by unfold Cf.slot; omega)
 have e2 : upd w (a + 1 + x) (putCell v false 0) a = w a := upd_ne _ _ (by omega)
 refine ⟨h.nb, h.ok, h.s, by rw [e1]; exact h.st, by rw [e1]; exact h.ad, by rw [e1]; exact h.ge, by rw [e2]; exact h.hd, h.bd, h.z1, fun y y0 y1 => ?_⟩
 by_cases c : y = x
 ·subst c; rw [upd_same]; exact ceF_lay
 ·rw [upd_ne _ _ (by omega)]; exact h.cl y y0 y1
structure LoK (C : Cf) (n : Int) (own : Bool) (z a W bb : Int) (A A' : Ar) : Prop where
 ol : Ol C A'.w n own z a
 W : A'.w (C.slot (hdSl n)) = W
 ok : A'.ok (bb + 1)
 n : A'.n = A.n
 s : A'.s = A.s + 1
 la : 0 ≤ A'.la ∧ A'.la < C.len
end Go.Fl
namespace Go.Fl
open Go
set_option linter.unusedVariables false
set_option linter.unusedSimpArgs false
variable {N : Nm} {A B : Ar} {σ : Mem} {K : Value → Mem → Prop} {C : Cf} {who : Int}
theorem Ol.made (hC : C.ok) {w : Int → Int} {s ge z a : Int} {own : Bool} (s0 : 0 ≤ s ∧ s < C.S) (g0 : 1 ≤ ge ∧ ge ≤ 65535) (hz : 0 ≤ classOf z) (hbd : C.base 0 ≤ a ∧ a + z < C.len) (h1 : w (C.slot s) = putSlot 1 a ge 0) (h2 : w a = putHead 2 z s ge own)
  (h3 : ∀ x, 0 ≤ x → x < z → w (a + 1 + x) = 0) : Ol C w (putHandle s ge) own z a := by
 have hS := hC.S
 have hT := hC.T
 have hCC := hC.C
 have hl := len_bd hC
 obtain ⟨sz, szr⟩ := class_room' hz
 obtain ⟨u0, u1, u2, u3, u4⟩ := hd_handle (s := s) (g := ge) (by omega) g0
 have hb0 : C.base 0 = 6 + C.T + 2 * C.S + 3 * C.C := by unfold Cf.base; omega
 obtain ⟨p1, p2, p3, p4⟩ := sl_put (st := 1) (ad := a) (ge := ge) (ve := 0) (by decide) (by omega) (by omega) (by decide)
 obtain ⟨q1, q2, q3, q4, q5⟩ := hd_put (k := 2) (s := z) (t := s) (g := ge) (o := own) (by decide) (by omega) (by omega) (by omega)
 exact ⟨u0, u1, by rw [u2]; exact s0.2, by rw [u2, h1]; exact p1, by rw [u2, h1]; exact p2, by rw [u2, u3, h1]; exact p3, ⟨by rw [h2]; exact q5, by rw [h2]; exact q2⟩, hbd, by omega, fun x x0 x1 => by rw [h3 x x0 x1]; rfl⟩
structure Fst (C : Cf) (own : Bool) (z : Int) (A' : Ar) (a : Int) : Prop where
 ol : Ol C A'.w 65536 own z a
 sl : hdSl 65536 = 0 ∧ hdGe 65536 = 1
 W : A'.w (C.slot 0) = putSlot 1 a 1 0
 hd : A'.w a = putHead 2 z 0 1 own
 cz : ∀ x, 0 ≤ x → x < z → A'.w (a + 1 + x) = 0
 at' : a = C.base 0
 aw : Bg.aw ⟨(upL 0 C.S.toNat).tail, upd (fun _ => -1) (classOf z) 0, upd (fun _ => 0) 0 (roomOf (classOf z)), upd (fun _ => 0) 0 (roomOf (classOf z)), 1⟩ C A'.w
 slots : ∀ t, 1 ≤ t → t < C.S → A'.w (C.slot t) = putSlot 0 0 1 0
 s : 2 * C.S + 2 < A'.s ∧ A'.s ≤ 2 * C.S + 102
 pa : Pa C A' 1000000
 n : A'.n = C.len.toNat
 la : A'.la < C.len
theorem upL_head {S : Int} (h : 1 ≤ S) : upL 0 S.toNat = 0 :: (upL 0 S.toNat).tail := by
 obtain ⟨k, e⟩ : ∃ k, S.toNat = k + 1 := ⟨S.toNat - 1, by omega⟩
 rw [e]; rfl
theorem c_First (hN : N.ok) (hC : C.ok) (hA : isA N A σ) (hF : Frsh N C A) {z : Int} {own : Bool} (hz : 0 ≤ classOf z)
  (hk : ∀ oV oS A' τ, Fst C own z A' (C.base 0) → (2 * C.S + 2 < oS ∧ oS ≤ A'.s) → isA N A' τ → Keep N.l σ τ → K (.agg #[.int .i64 0, .int .u64 65536, .int .i64 oV, .int .i64 oS]) τ) :
  s_aw [N.env C who, .int .i64 z, .bool own] K σ := by
 have hS := hC.S
 have hT := hC.T
 have hCC := hC.C
 have hW := hC.W
 have hl := len_bd hC
 have hAw0 := hF.aw hC
 have hb0 : C.base 0 = 6 + C.T + 2 * C.S + 3 * C.C := by unfold Cf.base; omega
 have hP := (hF.pa hC).mono (show 2 * C.S + 2 ≤ 200000 by omega)
 have hFF : (Bg.fr C).F = 0 :: (upL 0 C.S.toNat).tail := upL_head hS.1
 have hnx0 : (Bg.fr C).nx = 0 := rfl
 have hw0 : ∀ s, 0 ≤ s → s < C.S → A.w (C.slot s) = putSlot 0 0 1 0 := by
  intro s s0 s1
  rw [hF.w]
  unfold Cf.w0 Cf.fr
  rw [if_neg (by unfold Cf.slot; omega), if_neg (by unfold Cf.slot; omega), if_pos (by unfold Cf.slot; omega), if_pos (by unfold Cf.slot; omega)]
 have hge : slG (A.w (C.slot 0)) = 1 := by rw [hw0 0 (by omega) (by omega)]; decide
 have hngood : ∀ c, ¬ good C (Bg.fr C).o (Bg.fr C).u c := fun c h => absurd h.1 (by decide : ¬ (0 : Int) ≤ -1)
 have hss := hF.s
 have hla := hF.la
 refine c_MakeN hN hC hA hP (by omega) hAw0 (fr_lv.ok (by decide)) hz fun m A2 τ2 hD hP2 hn2 hA2 k2 => ?_
 obtain ⟨e0, hs1, j, b', hg, hj, hu, eH, hAw, w1', w2, w3⟩ := hD.r.ok hFF (.inr (by omega))
 rw [hge] at eH w1' w2
 have hj0 : j = 0 ∧ b' = ⟨(upL 0 C.S.toNat).tail, upd (fun _ => -1) (classOf z) 0, upd (fun _ => 0) 0 (roomOf (classOf z)), fun _ => 0, 1⟩ := by
  rcases hg with ⟨q, _⟩ | ⟨_, _, q1, q2⟩
  ·exact absurd q (hngood _)
  ·refine ⟨q1, q2.trans ?_⟩
   rw [q1]; show (⟨_, upd (fun _ => -1) (classOf z) 0, upd (fun _ => 0) 0 (0 + roomOf (classOf z)), fun _ => 0, 0 + 1⟩ : Bg) = _
   rw [Int.zero_add]; rfl
 obtain ⟨rfl, rfl⟩ := hj0
 have hu0 : (Bg.fr C).u 0 = 0 := rfl
 rw [hu0] at w1' w2 w3 hu
 simp only [Int.add_zero, Int.zero_add] at w1' w2 w3 hu
 have hc3 := (class_bd z).2
 have hr := room_bd hz hc3
 obtain ⟨sz, szr⟩ := class_room' hz
 have hbase : C.base 0 + z < C.len := by
  have := base_of hC (j := 0) (i := z) (by omega) (by omega) (by omega) (by omega)
  omega
 have cl0 : ∀ x, 0 ≤ x → x < z → A2.w (C.base 0 + 1 + x) = 0 := fun x x0 x1 => by
  have := w3 (1 + x) (by omega) (by omega)
  rw [show C.base 0 + 1 + x = C.base 0 + (1 + x) by omega]; exact this
 have hol := Ol.made hC (s := 0) (ge := 1) (z := z) (a := C.base 0) (own := own) (w := A2.w) ⟨Int.le_refl 0, by omega⟩ (by decide) hz ⟨Int.le_refl _, hbase⟩ w1' w2 cl0
 have hh : putHandle 0 1 = 65536 := by decide
 rw [hh] at hol eH
 rw [e0, eH]
 refine hk m.a.oV m.a.oS A2 τ2 ⟨hol, by decide, w1', w2, cl0, rfl, ?_, fun t t0 t1 => ?_, by have := hD.n; omega, hP2.mono (by omega), hn2.1.trans hF.n, hn2.2 (by omega)⟩ ⟨by omega, hD.n.1.2⟩ hA2 k2
 ·have : (Bg.count ⟨(upL 0 C.S.toNat).tail, upd (fun _ => -1) (classOf z) 0, upd (fun _ => 0) 0 (roomOf (classOf z)), fun _ => 0, 1⟩ 0 (roomOf (classOf z))) = ⟨(upL 0 C.S.toNat).tail, upd (fun _ => -1) (classOf z) 0, upd (fun _ => 0) 0 (roomOf (classOf z)), upd (fun _ => 0) 0 (roomOf (classOf z)), 1⟩ := by
   show (⟨_, _, _, upd (fun _ => 0) 0 (0 + roomOf (classOf z)), 1⟩ : Bg) = _
   rw [Int.zero_add]
  rw [this] at hAw; exact hAw
 ·rw [hD.fw.slot t (by omega) t1 fun _ F q => by rw [hFF] at q; injection q with q _; omega]
  exact hw0 t (by omega) t1
end Go.Fl
namespace Go.Fl
open Go
set_option linter.unusedVariables false
set_option linter.unusedSimpArgs false
variable {N : Nm} {A B : Ar} {σ : Mem} {K : Value → Mem → Prop} {C : Cf} {who : Int}
structure Cw (C : Cf) (c : Int) (w w0 : Int → Int) : Prop where
 o : w (2 + c) = w0 (2 + c)
 k : ∀ j, 0 ≤ j → j < C.C → w (C.chunk j) = w0 (C.chunk j)
theorem Cw.refl {c : Int} {w : Int → Int} : Cw C c w w := ⟨rfl, fun _ _ _ => rfl⟩
theorem Cw.trans {c : Int} {w w1 w2 : Int → Int} (h : Cw C c w w1) (k : Cw C c w1 w2) : Cw C c w w2 := ⟨h.o.trans k.o, fun j j0 j1 => (h.k j j0 j1).trans (k.k j j0 j1)⟩
theorem Cw.upd {c a v : Int} {w w0 : Int → Int} (h : Cw C c w w0) (ho : a ≠ 2 + c) (hk : ∀ j, 0 ≤ j → j < C.C → a ≠ C.chunk j) : Cw C c (upd w a v) w0 :=
 ⟨by rw [upd_ne _ _ (Ne.symm ho)]; exact h.o, fun j j0 j1 => by rw [upd_ne _ _ (Ne.symm (hk j j0 j1))]; exact h.k j j0 j1⟩
theorem Cw.both {c a v : Int} {w w0 : Int → Int} (h : Cw C c w w0) : Cw C c (Go.Fl.upd w a v) (Go.Fl.upd w0 a v) := by
 refine ⟨?_, fun j j0 j1 => ?_⟩
 ·unfold Go.Fl.upd; split
  ·rfl
  ·exact h.o
 ·unfold Go.Fl.upd; split
  ·rfl
  ·exact h.k j j0 j1
structure Tb (C : Cf) (c : Int) (w0 : Int → Int) : Prop where
 cb : 0 ≤ c ∧ c ≤ 3
 o : 0 ≤ w0 (2 + c) ∧ w0 (2 + c) ≤ C.C
 w : ∀ j, 0 ≤ j → j < C.C → 0 ≤ w0 (C.chunk j) ∧ w0 (C.chunk j) < 18446744073709551616
 n : ∀ j, 0 ≤ j → j < C.C → chS (w0 (C.chunk j)) = 0 → chN (w0 (C.chunk j)) < 68719476735
def gdT (C : Cf) (c : Int) (w0 : Int → Int) : Prop := 1 ≤ w0 (2 + c) ∧ chS (w0 (C.chunk (w0 (2 + c) - 1))) = 1 ∧ chC (w0 (C.chunk (w0 (2 + c) - 1))) = c ∧ chU (w0 (C.chunk (w0 (2 + c) - 1))) + roomOf c ≤ C.W
def ffT (C : Cf) (w0 : Int → Int) (f : Int) : Prop := (0 ≤ f ∧ f < C.C) ∧ chS (w0 (C.chunk f)) = 0 ∧ chN (w0 (C.chunk f)) < 68719476735 ∧ ∀ j, 0 ≤ j → j < f → chS (w0 (C.chunk j)) ≠ 0
def frT (c n : Int) : Int := putChunk 1 c 0 (n + 1)
def t1 (C : Cf) (c f : Int) (w0 : Int → Int) : Int → Int := upd w0 (C.chunk f) (frT c (chN (w0 (C.chunk f))))
def t2 (C : Cf) (c f : Int) (w0 : Int → Int) : Int → Int := upd (t1 C c f w0) (2 + c) (f + 1)
def PlG (C : Cf) (c : Int) (w0 : Int → Int) (k : Int) (t : Pl) (w : Int → Int) : Prop :=
 (t.cls = c ∧ t.ok = false) ∧ (
  Cw C c w w0 ∧ (
   t.pc = 0 ∧ t = Pl.new c ∧ k = 0 ∨
   t.pc = 1 ∧ 1 ≤ w0 (2 + c) ∧ t.opn = w0 (2 + c) ∧ t.at' = w0 (2 + c) - 1 ∧ (0 ≤ t.w ∧ t.w < 18446744073709551616) ∧ k = 1 ∨
   t.pc = 2 ∧ gdT C c w0 ∧ (0 ≤ t.opn ∧ t.opn < 18446744073709551616) ∧ t.at' = w0 (2 + c) - 1 ∧ t.w = w0 (C.chunk t.at') ∧ k = 2 ∨
   ¬ gdT C c w0 ∧ t.opn = w0 (2 + c) ∧ (0 ≤ t.at' ∧ t.at' < C.C) ∧ (∀ j, 0 ≤ j → j < t.at' → chS (w0 (C.chunk j)) ≠ 0) ∧ k ≤ 3 + t.at' ∧ (t.pc = 3 ∧ (0 ≤ t.w ∧ t.w < 18446744073709551616) ∨ t.pc = 4 ∧ ffT C w0 t.at' ∧ t.w = w0 (C.chunk t.at')) ∧ (t.pc = 3 → k ≤ 2 + t.at')) ∨
  ¬ gdT C c w0 ∧ ∃ f, ffT C w0 f ∧ (
   t.pc = 5 ∧ Cw C c w (t1 C c f w0) ∧ t.opn = w0 (2 + c) ∧ t.at' = f ∧ (0 ≤ t.w ∧ t.w < 18446744073709551616) ∧ k ≤ 5 + f ∨
   Cw C c w (t2 C c f w0) ∧ (t.pc = 0 ∧ (0 ≤ t.opn ∧ t.opn < 18446744073709551616) ∧ (0 ≤ t.at' ∧ t.at' < C.C) ∧ (0 ≤ t.w ∧ t.w < 18446744073709551616) ∧ k ≤ 6 + f ∨
    t.pc = 1 ∧ (0 ≤ t.opn ∧ t.opn < 18446744073709551616) ∧ t.at' = f ∧ (0 ≤ t.w ∧ t.w < 18446744073709551616) ∧ k ≤ 7 + f ∨
    t.pc = 2 ∧ (0 ≤ t.opn ∧ t.opn < 18446744073709551616) ∧ t.at' = f ∧ t.w = frT c (chN (w0 (C.chunk f))) ∧ k ≤ 8 + f)))
def PlD (C : Cf) (c : Int) (w0 : Int → Int) (t : Pl) (w : Int → Int) : Prop :=
 t.cls = c ∧ (
  gdT C c w0 ∧ t.ok = true ∧ t.sc = w0 (2 + c) - 1 ∧ t.sa = C.base t.sc + chU (w0 (C.chunk t.sc)) ∧ Cw C c w (upd w0 (C.chunk t.sc) (putChunk 1 c (chU (w0 (C.chunk t.sc)) + roomOf c) (chN (w0 (C.chunk t.sc))))) ∨
  ¬ gdT C c w0 ∧ (∃ f, ffT C w0 f ∧ t.ok = true ∧ t.sc = f ∧ t.sa = C.base f ∧ Cw C c w (upd (t2 C c f w0) (C.chunk f) (putChunk 1 c (roomOf c) (chN (w0 (C.chunk f)) + 1)))) ∨
  ¬ gdT C c w0 ∧ t.ok = false ∧ Cw C c w w0 ∧ ∀ j, 0 ≤ j → j < C.C → chS (w0 (C.chunk j)) ≠ 0)
theorem PlG.keep {c k : Int} {w0 w w' : Int → Int} {t : Pl} (h : PlG C c w0 k t w) (x : Cw C c w' w) : PlG C c w0 k t w' := by
 obtain ⟨h1, ⟨h2, h3⟩ | ⟨h2, f, h3, ⟨h4, h5, h6⟩ | ⟨h4, h5⟩⟩⟩ := h
 ·exact ⟨h1, .inl ⟨x.trans h2, h3⟩⟩
 ·exact ⟨h1, .inr ⟨h2, f, h3, .inl ⟨h4, x.trans h5, h6⟩⟩⟩
 ·exact ⟨h1, .inr ⟨h2, f, h3, .inr ⟨x.trans h4, h5⟩⟩⟩
theorem PlG.fit (hC : C.ok) {c k : Int} {w0 w : Int → Int} {t : Pl} (h : PlG C c w0 k t w) (hT : Tb C c w0) : t.fit C ∧ w (2 + t.cls) ≤ C.C := by
 have hCC := hC.C
 have h0 := hT.cb
 have ho := hT.o
 obtain ⟨⟨hc, _⟩, h⟩ := h
 refine ⟨⟨by rw [hc]; exact h0, ?_, ?_, ?_⟩, ?_⟩
 ·rcases h with ⟨h2, ⟨_, e, h⟩ | ⟨_, _, e, _, _, h⟩ | ⟨_, _, e, _, _, h⟩ | ⟨_, e, h3, _, h, _⟩⟩ | ⟨h2, f, h3, ⟨h4, _, e, _, _, h⟩ | ⟨h4, ⟨_, e, _, _, h⟩ | ⟨_, e, _, _, h⟩ | ⟨_, e, _, _, h⟩⟩⟩
  ·rw [e]; exact ⟨Int.le_refl 0, (by decide : (0 : Int) < 18446744073709551616)⟩
  ·omega
  ·exact e
  ·omega
  ·omega
  ·exact e
  ·exact e
  ·exact e
 ·rcases h with ⟨h2, ⟨_, e, h⟩ | ⟨_, _, _, e, _, h⟩ | ⟨_, g, _, e, _, h⟩ | ⟨_, _, e, _, h, _⟩⟩ | ⟨h2, f, h3, ⟨h4, _, _, e, _, h⟩ | ⟨h4, ⟨_, _, e, _, h⟩ | ⟨_, _, e, _, h⟩ | ⟨_, _, e, _, h⟩⟩⟩
  ·rw [e]; exact ⟨Int.le_refl 0, by show (0 : Int) < C.C; omega⟩
  ·omega
  ·have := g.1; omega
  ·exact e
  ·rw [e]; exact h3.1
  ·exact e
  ·rw [e]; exact h3.1
  ·rw [e]; exact h3.1
 ·rcases h with ⟨h2, ⟨_, e, h⟩ | ⟨_, _, _, _, e, h⟩ | ⟨_, g, _, e1, e, h⟩ | ⟨_, _, e1, _, _, ⟨_, e⟩ | ⟨_, _, e⟩, _⟩⟩ | ⟨h2, f, h3, ⟨h4, _, _, _, e, h⟩ | ⟨h4, ⟨_, _, _, e, h⟩ | ⟨_, _, _, e, h⟩ | ⟨_, _, _, e, h⟩⟩⟩
  ·rw [e]; exact ⟨Int.le_refl 0, (by decide : (0 : Int) < 18446744073709551616)⟩
  ·exact e
  ·rw [e]; exact hT.w _ (by have := g.1; omega) (by omega)
  ·exact e
  ·rw [e]; exact hT.w _ e1.1 e1.2
  ·exact e
  ·exact e
  ·exact e
  ·rw [e]; exact putChunk_in _ _ _ _
 ·rw [hc]
  rcases h with ⟨h2, _⟩ | ⟨h2, f, h3, ⟨_, h4, _⟩ | ⟨h4, _⟩⟩
  ·rw [h2.o]; exact ho.2
  ·rw [h4.o]; unfold t1; rw [upd_ne _ _ (by have := hC.T; have := hC.S; have := h3.1; unfold Cf.chunk; omega)]; exact ho.2
  ·rw [h4.o]; unfold t2; rw [upd_same]; have := h3.1; omega
def PlA (C : Cf) (c a : Int) : Prop := a = 2 + c ∨ ∃ j, 0 ≤ j ∧ j < C.C ∧ a = C.chunk j
structure PlT (C : Cf) (who c : Int) (A A' : Ar) : Prop where
 ex : ∃ a, PlA C c a ∧ (A' = (A.by who).load a ∨ ∃ v, (0 ≤ v ∧ v < 18446744073709551616) ∧ A' = (A.by who).store a v)
theorem PlG.step (hC : C.ok) {c k : Int} {w0 : Int → Int} {t : Pl} (h : PlG C c w0 k t A.w) (hT : Tb C c w0) :
  PlT C who c A (t.step C who A).2.2 ∧ ((t.step C who A).1 = false ∧ PlG C c w0 (k + 1) (t.step C who A).2.1 (t.step C who A).2.2.w ∨ (t.step C who A).1 = true ∧ PlD C c w0 (t.step C who A).2.1 (t.step C who A).2.2.w) := by
 have hCC := hC.C
 have h0 := hT.cb
 have ho := hT.o
 have hW := hC.W
 have hTT := hC.T
 have hSS := hC.S
 have hr := room_bd h0.1 h0.2
 have ne1 : ∀ j, 0 ≤ j → C.chunk j ≠ 2 + c := fun j j0 => by unfold Cf.chunk; omega
 have inj : ∀ i j, C.chunk i = C.chunk j → i = j := fun i j e => by unfold Cf.chunk at e; omega
 have ld : ∀ a, PlA C c a → PlT C who c A ((A.by who).load a) := fun a ha => ⟨a, ha, .inl rfl⟩
 have pk : ∀ j, 0 ≤ j → j < C.C → PlA C c (C.chunk j) := fun j j0 j1 => .inr ⟨j, j0, j1, rfl⟩
 have po : PlA C c (2 + c) := .inl rfl
 have lw : ∀ a, ((A.by who).load a).w = A.w := fun _ => rfl
 obtain ⟨⟨hc, hok⟩, h⟩ := h
 rcases h with ⟨h2, ⟨p, e, hk⟩ | ⟨p, e1, e2, e3, e4, hk⟩ | ⟨p, g, e1, e2, e3, hk⟩ | ⟨g, e1, e2, e3, hk, hp, hk4⟩⟩ | ⟨g, f, hf, ⟨p, h2, e1, e2, e3, hk⟩ | ⟨h2, ⟨p, e1, e2, e3, hk⟩ | ⟨p, e1, e2, e3, hk⟩ | ⟨p, e1, e2, e3, hk⟩⟩⟩
 ·-- look
  have hw1 : IntKind.i64.wrap (A.w (2 + t.cls)) = A.w (2 + t.cls) := IntWalk.i64_in _ (by rw [hc, h2.o]; omega)
  have es : t.step C who A = (false, (if A.w (2 + t.cls) - 1 < 0 then { t with opn := A.w (2 + t.cls), at' := 0, pc := 3 } else { t with opn := A.w (2 + t.cls), at' := A.w (2 + t.cls) - 1, pc := 1 }), (A.by who).load (2 + t.cls)) := by
   unfold Pl.step; rw [if_pos p]; dsimp only; rw [hw1]
  have tw : 0 ≤ t.w ∧ t.w < 18446744073709551616 := by rw [e]; exact ⟨Int.le_refl 0, (by decide : (0 : Int) < 18446744073709551616)⟩
  rw [es, hc]
  refine ⟨ld _ po, .inl ⟨rfl, ?_⟩⟩
  rw [h2.o]
  by_cases q : w0 (2 + c) - 1 < 0
  ·rw [if_pos q]
   exact ⟨⟨by first | exact hc | rfl, hok⟩, .inl ⟨h2, .inr (.inr (.inr ⟨fun x => by have := x.1; omega, rfl, ⟨Int.le_refl 0, by show (0 : Int) < C.C; omega⟩, fun j j0 j1 => (by have : j < 0 := j1; omega), by show k + 1 ≤ 3 + 0; omega, .inl ⟨rfl, tw⟩, fun _ => by show k + 1 ≤ 2 + 0; omega⟩))⟩⟩
  ·rw [if_neg q]
   exact ⟨⟨by first | exact hc | rfl, hok⟩, .inl ⟨h2, .inr (.inl ⟨rfl, by omega, rfl, rfl, tw, by omega⟩)⟩⟩
 ·-- see
  have hat : 0 ≤ t.at' ∧ t.at' < C.C := by omega
  have ew : A.w (C.chunk t.at') = w0 (C.chunk t.at') := h2.k _ hat.1 hat.2
  have es : t.step C who A = (false, (if chS (A.w (C.chunk t.at')) ≠ 1 ∨ chC (A.w (C.chunk t.at')) ≠ t.cls ∨ C.W < chU (A.w (C.chunk t.at')) + roomOf t.cls then { t with w := A.w (C.chunk t.at'), at' := 0, pc := 3 } else { t with w := A.w (C.chunk t.at'), pc := 2 }), (A.by who).load (C.chunk t.at')) := by
   unfold Pl.step; rw [if_neg (by omega), if_pos p]
  have tw := hT.w _ hat.1 hat.2
  rw [es]
  refine ⟨ld _ (pk _ hat.1 hat.2), .inl ⟨rfl, ?_⟩⟩
  rw [ew, hc]
  by_cases q : chS (w0 (C.chunk t.at')) ≠ 1 ∨ chC (w0 (C.chunk t.at')) ≠ c ∨ C.W < chU (w0 (C.chunk t.at')) + roomOf c
  ·rw [if_pos q]
   exact ⟨⟨by first | exact hc | rfl, hok⟩, .inl ⟨h2, .inr (.inr (.inr ⟨fun x => by obtain ⟨_, x1, x2, x3⟩ := x; rw [← e3] at x1 x2 x3; omega, e2, ⟨Int.le_refl 0, by show (0 : Int) < C.C; omega⟩, fun j j0 j1 => (by have : j < 0 := j1; omega), by show k + 1 ≤ 3 + 0; omega, .inl ⟨rfl, tw⟩, fun _ => by show k + 1 ≤ 2 + 0; omega⟩))⟩⟩
  ·rw [if_neg q]
   exact ⟨⟨by first | exact hc | rfl, hok⟩, .inl ⟨h2, .inr (.inr (.inl ⟨rfl, ⟨by omega, by rw [← e3]; omega, by rw [← e3]; omega, by rw [← e3]; omega⟩, by show 0 ≤ t.opn ∧ t.opn < _; omega, e3, rfl, by omega⟩))⟩⟩
 ·-- get
  have hat : 0 ≤ t.at' ∧ t.at' < C.C := by have := g.1; omega
  have ew : A.w (C.chunk t.at') = t.w := by rw [h2.k _ hat.1 hat.2, e3]
  have es : t.step C who A = (true, { t with pc := 0, sa := C.base t.at' + chU t.w, sc := t.at', ok := true }, (A.by who).store (C.chunk t.at') (putChunk (chS t.w) (chC t.w) (chU t.w + roomOf t.cls) (chN t.w))) := by
   unfold Pl.step; rw [if_neg (by omega), if_neg (by omega), if_pos p]
   dsimp only
   rw [if_pos ew, cas_yes (show (A.by who).w _ = _ from ew), decide_eq_true ew]
  rw [es]
  refine ⟨⟨_, pk _ hat.1 hat.2, .inr ⟨_, putChunk_in _ _ _ _, rfl⟩⟩, .inr ⟨rfl, hc, .inl ⟨g, rfl, e2, by dsimp only; rw [e3], ?_⟩⟩⟩
  obtain ⟨g1, g2, g3, g4⟩ := g
  rw [← e2, ← e3] at g2 g3
  dsimp only
  rw [store_w, g2, g3, hc, e3]
  exact h2.both
 ·rcases hp with ⟨p, tw⟩ | ⟨p, hf, e4⟩
  ·-- scan
   have ew : A.w (C.chunk t.at') = w0 (C.chunk t.at') := h2.k _ e2.1 e2.2
   have tw2 := hT.w _ e2.1 e2.2
   by_cases q : chS (A.w (C.chunk t.at')) ≠ 0
   ·have es : t.step C who A = (decide (C.C ≤ t.at' + 1), { t with w := A.w (C.chunk t.at'), at' := t.at' + 1, pc := 3 }, (A.by who).load (C.chunk t.at')) := by
     unfold Pl.step; rw [if_neg (by omega), if_neg (by omega), if_neg (by omega), if_pos p]
     dsimp only
     rw [if_pos q]; rfl
    have all : ∀ j, 0 ≤ j → j < t.at' + 1 → chS (w0 (C.chunk j)) ≠ 0 := fun j j0 j1 => by
     by_cases ej : j = t.at'
     ·rw [ej, ← ew]; exact q
     ·exact e3 j j0 (by omega)
    rw [es]
    refine ⟨ld _ (pk _ e2.1 e2.2), ?_⟩
    by_cases q2 : C.C ≤ t.at' + 1
    ·exact .inr ⟨decide_eq_true q2, hc, .inr (.inr ⟨g, hok, h2, fun j j0 j1 => all j j0 (by omega)⟩)⟩
    ·exact .inl ⟨decide_eq_false q2, ⟨by first | exact hc | rfl, hok⟩, .inl ⟨h2, .inr (.inr (.inr ⟨g, e1, ⟨by dsimp only; omega, by dsimp only; omega⟩, all, by dsimp only; omega, .inl ⟨by first | rfl | exact p, by dsimp only; rw [ew]; exact tw2⟩, fun _ => by have := hk4 p; dsimp only; omega⟩))⟩⟩
   ·have es : t.step C who A = (false, { t with w := A.w (C.chunk t.at'), pc := 4 }, (A.by who).load (C.chunk t.at')) := by
     unfold Pl.step; rw [if_neg (by omega), if_neg (by omega), if_neg (by omega), if_pos p]
     dsimp only
     rw [if_neg q]
    rw [es]
    have q' : chS (w0 (C.chunk t.at')) = 0 := by rw [← ew]; omega
    exact ⟨ld _ (pk _ e2.1 e2.2), .inl ⟨rfl, ⟨by first | exact hc | rfl, hok⟩, .inl ⟨h2, .inr (.inr (.inr ⟨g, e1, e2, e3, by have := hk4 p; dsimp only; omega, .inr ⟨rfl, ⟨e2, q', hT.n _ e2.1 e2.2 q', e3⟩, ew⟩, fun x => by have x' : (4 : Int) = 3 := x; omega⟩))⟩⟩⟩
  ·-- take
   have ew : A.w (C.chunk t.at') = t.w := by rw [h2.k _ e2.1 e2.2, e4]
   have es : t.step C who A = (false, { t with pc := 5 }, (A.by who).store (C.chunk t.at') t.fresh) := by
    unfold Pl.step; rw [if_neg (by omega), if_neg (by omega), if_neg (by omega), if_neg (by omega), if_pos p, if_pos ew, cas_yes (show (A.by who).w _ = _ from ew)]
   have efr : t.fresh = frT c (chN (w0 (C.chunk t.at'))) := by unfold Pl.fresh frT; rw [hc, e4]
   have tw := hT.w _ e2.1 e2.2
   rw [es]
   refine ⟨⟨_, pk _ e2.1 e2.2, .inr ⟨_, putChunk_in _ _ _ _, rfl⟩⟩, .inl ⟨rfl, ⟨by first | exact hc | rfl, hok⟩, .inr ⟨g, t.at', hf, .inl ⟨rfl, ?_, e1, rfl, by show 0 ≤ t.w ∧ t.w < _; rw [e4]; exact tw, by omega⟩⟩⟩⟩
   dsimp only
   rw [store_w, efr]
   exact h2.both
 ·-- open
  have ew : A.w (2 + t.cls) = t.opn := by
   rw [hc, h2.o, e1]; unfold t1; rw [upd_ne _ _ (Ne.symm (ne1 _ hf.1.1))]
  have es : t.step C who A = (false, { t with pc := 0 }, (A.by who).store (2 + t.cls) (t.at' + 1)) := by
   unfold Pl.step; rw [if_neg (by omega), if_neg (by omega), if_neg (by omega), if_neg (by omega), if_neg (by omega), if_pos p, if_pos ew, cas_yes (show (A.by who).w _ = _ from ew)]
  have hf1 := hf.1
  rw [es, hc, e2]
  refine ⟨⟨_, po, .inr ⟨_, by omega, rfl⟩⟩, .inl ⟨rfl, ⟨by first | exact hc | rfl, hok⟩, .inr ⟨g, f, hf, .inr ⟨?_, .inl ⟨rfl, by show 0 ≤ t.opn ∧ t.opn < _; omega, by dsimp only; omega, e3, by omega⟩⟩⟩⟩⟩
  dsimp only
  rw [store_w]
  exact h2.both
 ·-- look
  have hf1 := hf.1
  have ew : A.w (2 + t.cls) = f + 1 := by rw [hc, h2.o]; unfold t2; rw [upd_same]
  have hw1 : IntKind.i64.wrap (f + 1) = f + 1 := IntWalk.i64_in _ (by omega)
  have es : t.step C who A = (false, { t with opn := f + 1, at' := f, pc := 1 }, (A.by who).load (2 + t.cls)) := by
   unfold Pl.step; rw [if_pos p]; dsimp only; rw [ew, hw1, if_neg (by omega), show f + 1 - 1 = f by omega]
  rw [es, hc]
  exact ⟨ld _ po, .inl ⟨rfl, ⟨by first | exact hc | rfl, hok⟩, .inr ⟨g, f, hf, .inr ⟨h2, .inr (.inl ⟨rfl, by dsimp only; omega, rfl, e3, by omega⟩)⟩⟩⟩⟩
 ·-- see
  have hf1 := hf.1
  have ew : A.w (C.chunk t.at') = frT c (chN (w0 (C.chunk f))) := by
   rw [e2, h2.k _ hf1.1 hf1.2]; unfold t2; rw [upd_ne _ _ (ne1 _ hf1.1)]; unfold t1; rw [upd_same]
  have hN := chN_bd (w0 (C.chunk f))
  have hf2 := hf.2.2.1
  obtain ⟨z1, z2, z3, z4⟩ := ch_put (st := 1) (c := c) (us := 0) (sp := chN (w0 (C.chunk f)) + 1) (by decide) (by omega) (by decide) (by omega)
  have es : t.step C who A = (false, { t with w := frT c (chN (w0 (C.chunk f))), pc := 2 }, (A.by who).load (C.chunk t.at')) := by
   unfold Pl.step; rw [if_neg (by omega), if_pos p]
   dsimp only
   rw [ew, if_neg]
   unfold frT; rw [z1, z2, z3, hc]; omega
  rw [es, e2]
  exact ⟨ld _ (pk _ hf1.1 hf1.2), .inl ⟨rfl, ⟨by first | exact hc | rfl, hok⟩, .inr ⟨g, f, hf, .inr ⟨h2, .inr (.inr ⟨rfl, e1, by first | exact e2 | rfl, rfl, by omega⟩)⟩⟩⟩⟩
 ·-- get
  have hf1 := hf.1
  have ew : A.w (C.chunk t.at') = t.w := by
   rw [e2, e3, h2.k _ hf1.1 hf1.2]; unfold t2; rw [upd_ne _ _ (ne1 _ hf1.1)]; unfold t1; rw [upd_same]
  have hN := chN_bd (w0 (C.chunk f))
  have hf2 := hf.2.2.1
  obtain ⟨z1, z2, z3, z4⟩ := ch_put (st := 1) (c := c) (us := 0) (sp := chN (w0 (C.chunk f)) + 1) (by decide) (by omega) (by decide) (by omega)
  have es : t.step C who A = (true, { t with pc := 0, sa := C.base t.at' + chU t.w, sc := t.at', ok := true }, (A.by who).store (C.chunk t.at') (putChunk (chS t.w) (chC t.w) (chU t.w + roomOf t.cls) (chN t.w))) := by
   unfold Pl.step; rw [if_neg (by omega), if_neg (by omega), if_pos p]
   dsimp only
   rw [if_pos ew, cas_yes (show (A.by who).w _ = _ from ew), decide_eq_true ew]
  rw [es, e3, e2]
  unfold frT
  rw [z1, z2, z3, z4, hc]
  refine ⟨⟨_, pk _ hf1.1 hf1.2, .inr ⟨_, putChunk_in _ _ _ _, rfl⟩⟩, .inr ⟨rfl, by first | exact hc | rfl, .inr (.inl ⟨g, f, hf, rfl, rfl, by dsimp only; omega, ?_⟩)⟩⟩
  dsimp only
  rw [store_w, show 0 + roomOf c = roomOf c by omega]
  exact h2.both
end Go.Fl
namespace Go.Fl
open Go
set_option linter.unusedVariables false
set_option linter.unusedSimpArgs false
variable {N : Nm} {A B : Ar} {σ : Mem} {K : Value → Mem → Prop} {C : Cf} {who : Int}
theorem h65 : hdSl 65536 = 0 ∧ hdGe 65536 = 1 ∧ hdOk 65536 = true := by decide
theorem xExt50 {x y z u v : Value} {K : Value → Prop} : xF (fExt 0) [.tuple #[x, y, z, u, v]] K = K x := nr rfl
theorem xExt51 {x y z u v : Value} {K : Value → Prop} : xF (fExt 1) [.tuple #[x, y, z, u, v]] K = K y := nr rfl
theorem xExt52 {x y z u v : Value} {K : Value → Prop} : xF (fExt 2) [.tuple #[x, y, z, u, v]] K = K z := nr rfl
theorem xExt53 {x y z u v : Value} {K : Value → Prop} : xF (fExt 3) [.tuple #[x, y, z, u, v]] K = K u := nr rfl
theorem xExt54 {x y z u v : Value} {K : Value → Prop} : xF (fExt 4) [.tuple #[x, y, z, u, v]] K = K v := nr rfl
structure Bgn (C : Cf) (z c V : Int) (L : Int → Int) (A : Ar) : Prop where
 sl : A.w (C.slot 0) = putSlot 1 (C.base c) 1 V
 hd : A.w (C.base c) = putHead 2 z 0 1 false
 cl : ∀ x, 0 ≤ x → x < z → A.w (C.base c + 1 + x) = L x ∧ 0 ≤ L x ∧ L x ≤ 65535
 o : A.w (2 + classOf z) = c + 1
 ev : ∀ j, 0 ≤ j → j ≤ c → chS (A.w (C.chunk j)) = 2
 ch : ∀ j, c + 1 ≤ j → j < C.C → A.w (C.chunk j) = 0
 ok : A.ok 2000000
 n : A.n = C.len.toNat
structure BgL (C : Cf) (z : Int) (A : Ar) : Prop where
 nil : ∀ j i, 1 ≤ j → j < C.C → 0 ≤ i → i < C.W → A.w (C.base j + i) = 0
 lv0 : A.w (C.chunk 0 + 1) = roomOf (classOf z)
 lv : ∀ j, 1 ≤ j → j < C.C → A.w (C.chunk j + 1) = 0
 fre : Fre C A.w (upL 0 C.S.toNat).tail
 ok1 : A.ok 1500000
def valW (g : Int → Int) (len : Nat) (x : Int) : Int := if x < len then g x % 65536 else 0
theorem valW_none {g : Int → Int} {x : Int} (h : 0 ≤ x) : valW g 0 x = 0 := if_neg (by omega)
theorem c_begun (hC : (cA 4 8 4 20).ok) {a0 : Int} {s : Value} {len : Nat} {g : Int → Int} (hg : ArgI .i64 σ s len g)
  (hk : ∀ N A τ, N.ok → isA N A τ → Ext σ τ → N.fr σ → Bgn (cA 4 8 4 20) (1 + a0 % 16) 0 0 (valW g len) A → BgL (cA 4 8 4 20) (1 + a0 % 16) A →
   K (.tuple #[N.env (cA 4 8 4 20) 0, .int .u64 65536, .int .i64 ((cA 4 8 4 20).base 0), .agg #[.int .i64 2, .int .i64 (1 + a0 % 16), .int .i64 0, .int .i64 1, .bool false], .bool true]) τ) : s_a9 [.int .i64 a0, s] K σ := by
 have hz : 1 ≤ 1 + a0 % 16 ∧ 1 + a0 % 16 ≤ 16 := by omega
 have g4 : ∀ {k : Nat} {x y z w : Int}, gStore 4 [.pointer (some ⟨k, 0, some 0⟩), .agg #[.int .i64 x, .int .i64 y, .int .i64 z, .int .i64 w]] [.int .i64 0, .int .i64 0, .int .i64 0, .int .i64 0] = some [.int .i64 x, .int .i64 y, .int .i64 z, .int .i64 w] := fun {_ _ _ _ _} => rfl
 have gU : ∀ {k : Nat} {x y z w : Int}, gStore 4 [.pointer (some ⟨k, 0, some 0⟩), .agg #[.int .i64 x, .int .u64 y, .int .i64 z, .int .i64 w]] [.int .i64 0, .int .u64 0, .int .i64 0, .int .i64 0] = some [.int .i64 x, .int .u64 y, .int .i64 z, .int .i64 w] := fun {_ _ _ _ _} => rfl
 have g2 : ∀ {k : Nat} {x y : Int}, gStore 2 [.pointer (some ⟨k, 0, some 0⟩), .agg #[.int .i64 x, .int .i64 y]] [.int .i64 0, .int .i64 0] = some [.int .i64 x, .int .i64 y] := fun {_ _ _} => rfl
 have p0 : ∀ {k : Nat} {x a b c d : Int}, gStore 1 [.pointer (some ⟨k, 0, some 0⟩), .int .i64 x] [.int .i64 a, .int .i64 b, .int .i64 c, .int .i64 d] = some [.int .i64 x, .int .i64 b, .int .i64 c, .int .i64 d] := fun {_ _ _ _ _ _} => rfl
 have p3 : ∀ {k : Nat} {x a b c d : Int}, gStore 1 [.pointer (some ⟨k, 3, some 0⟩), .int .i64 x] [.int .i64 a, .int .i64 b, .int .i64 c, .int .i64 d] = some [.int .i64 a, .int .i64 b, .int .i64 c, .int .i64 x] := fun {_ _ _ _ _ _} => rfl
 have g5 : ∀ {k : Nat} {x y z w : Int} {u : Bool}, gStore 5 [.pointer (some ⟨k, 0, some 0⟩), .agg #[.int .i64 x, .int .i64 y, .int .i64 z, .int .i64 w, .bool u]] [.int .i64 0, .int .i64 0, .int .i64 0, .int .i64 0, .bool false] = some [.int .i64 x, .int .i64 y, .int .i64 z, .int .i64 w, .bool u] := fun {_ _ _ _ _ _} => rfl
 have s5 : ∀ x y z u w : Value, sub [x, y, z, u, w] 0 5 true = some (.agg #[x, y, z, u, w]) := fun _ _ _ _ _ => rfl
 have f1 : ∀ (x y z w : Value) (K : Value → Prop), xF (fFldV 1 1 false) [.agg #[x, y, z, w]] K = K y := fun _ _ _ _ K => nr rfl
 have b5 : ∀ (x y : Int) (K : Value → Prop), xF (fBuild [(0, 1), (1, 1), (2, 1), (3, 1), (4, 1)] [.int .i64 0, .int .u64 0, .int .i64 0, .int .i64 0, .int .i64 0] [0, 1, 2, 3]) [.int .i64 2, .int .u64 65536, .int .i64 x, .int .i64 y] K = K (.agg #[.int .i64 2, .int .u64 65536, .int .i64 x, .int .i64 y, .int .i64 0]) := fun _ _ K => nr rfl
 simp only [s_a9, w_a9, ruS, ruL, ruE, Nat.reduceAdd, reduceIte, Int.reduceLT, Int.reduceLE, Int.reduceEq, Int.reduceNeg, Int.reduceAdd, Int.reduceSub, Nat.reduceLeDiff, Nat.reduceLT]
 refine c_Arena (C := cA 4 8 4 20) hC rfl rfl rfl fun N A τ hN hF hA hE hfr => ?_
 have hCC : (cA 4 8 4 20).C = 4 := rfl
 have hCS : (cA 4 8 4 20).S = 8 := rfl
 have hCT : (cA 4 8 4 20).T = 4 := rfl
 simp only [gStoreE, andI15, ruS, ruL, ruE, Nat.reduceAdd, reduceIte, Int.reduceLT, Int.reduceLE, Int.reduceEq, Int.reduceNeg, Int.reduceAdd, Int.reduceSub, Nat.reduceLeDiff, Nat.reduceLT]
 rw [IntWalk.i64_in (1 + a0 % 16) (by omega)]
 generalize 1 + a0 % 16 = z at *
 generalize hCe : cA 4 8 4 20 = C at *
 have hcl : 0 ≤ classOf z := by unfold classOf; (repeat' split) <;> omega
 have hc3 := (class_bd z).2
 have hr := room_bd hcl hc3
 obtain ⟨sz, szr⟩ := class_room' hcl
 refine c_First hN hC hA hF hcl fun oV oS A2 τ2 hfst hoS hA2 k2 => ?_
 have ext2 := hE.keep' k2 hfr.all
 have hll := len_bd hC
 have hb0 : C.base 0 = 6 + C.T + 2 * C.S + 3 * C.C := by unfold Cf.base; omega
 have hW := hC.W
 simp only [gU, w_a9_j1, w_a9_j1b, ruS, ruL, ruE, Nat.reduceAdd, reduceIte, Int.reduceLT, Int.reduceLE, Int.reduceEq, Int.reduceNeg, Int.reduceAdd, Int.reduceSub, Nat.reduceLeDiff, Nat.reduceLT]
 refine xLoop_i (fun i => [s, .int .i64 z, .int .i64 i]) [N.el C 0, [.int .i64 0, .int .i64 0, .int .i64 0, .int .i64 0, .bool false], [.int .i64 0, .int .u64 65536, .int .i64 oV, .int .i64 oS]] z
  (fun i τ => ∃ A, 0 ≤ i ∧ i ≤ z ∧ i ≤ len ∧ isA N A τ ∧ Ol C A.w 65536 false z (C.base 0) ∧ A.ok (1000000 + 10 * i) ∧ A.n = C.len.toNat ∧ (∀ y, ¬ (C.base 0 + 1 ≤ y ∧ y ≤ C.base 0 + z) → A.w y = A2.w y) ∧
   (∀ x, 0 ≤ x → x < z → A.w (C.base 0 + 1 + x) = if x < i then g x % 65536 else 0) ∧ Ext σ τ) ?_
  ⟨A2, Int.le_refl 0, by omega, by omega, hA2, hfst.ol, by simpa using hfst.pa.ok, hfst.n, fun _ _ => rfl, fun x x0 x1 => by rw [if_neg (by omega)]; exact hfst.cz x x0 x1, ext2⟩
 rintro i τ3 ⟨A3, i0, i1, i2, hA3, hol, hok, hn3, hsame, hcell, ext3⟩ R hR
 have hg3 := hg.keep ext3
 simp only [w_law11_begun_l8, w_law11_begun_l8b, hg3.len, ruS, ruL, ruE, Nat.reduceAdd, reduceIte, Int.reduceLT, Int.reduceLE, Int.reduceEq, Int.reduceNeg, Int.reduceAdd, Int.reduceSub, Nat.reduceLeDiff, Nat.reduceLT]
 -- behind the words
 have fin : (i = z ∨ i = len) → w_a9_j2 K [] [N.el C 0, [.int .i64 0, .int .i64 0, .int .i64 0, .int .i64 0, .bool false], [.int .i64 0, .int .u64 65536, .int .i64 oV, .int .i64 oS]] τ3 := by
  intro hi
  have hT := hC.T
  have esl : C.slot 0 = 6 + C.T := by unfold Cf.slot; omega
  have ech : C.chunk 0 = 6 + C.T + 2 * C.S := by unfold Cf.chunk; omega
  have habd := hol.bd
  have sl3 : A3.w (C.slot 0) = putSlot 1 (C.base 0) 1 0 := by rw [hsame _ (by omega)]; exact hfst.W
  have hd3 : A3.w (C.base 0) = putHead 2 z 0 1 false := by rw [hsame _ (by omega)]; exact hfst.hd
  have hsb : 0 ≤ C.slot 0 ∧ C.slot 0 < A3.n := by omega
  have hcb : 0 ≤ C.chunk 0 ∧ C.chunk 0 < A3.n := by omega
  obtain ⟨p1, p2, p3', p4⟩ := sl_put (st := 1) (ad := C.base 0) (ge := 1) (ve := 0) (by decide) (by omega) (by decide) (by decide)
  have hof : ofC C (C.base 0) = 0 := by
   have := (base_of hC (j := 0) (i := 0) (by omega) (by omega) (by omega) (by omega)).1
   rw [Int.add_zero] at this; exact this
  have hwc := hok.w (C.chunk 0)
  have hN3 := chN_bd (A3.w (C.chunk 0))
  simp only [w_a9_j2, w_a9_j2b, ruS, ruL, ruE, Nat.reduceAdd, reduceIte, Int.reduceLT, Int.reduceLE, Int.reduceEq, Int.reduceNeg, Int.reduceAdd, Int.reduceSub, Nat.reduceLeDiff, Nat.reduceLT]
  rw [c_wHandleG (by decide) (by decide)]
  simp only [g2, h65.1, h65.2.1, h65.2.2, c_Slot hC (Int.le_refl 0) (by decide), c_PeekA hN hA3 hsb.1 hsb.2, sl3, c_wSlot (putSlot_in _ _ _ _).1 (putSlot_in _ _ _ _).2, p1, p2, p3', p4, f1, ruS, ruL, ruE, Nat.reduceAdd, reduceIte, Int.reduceLT, Int.reduceLE, Int.reduceEq, Int.reduceNeg, Int.reduceAdd, Int.reduceSub, Nat.reduceLeDiff, Nat.reduceLT]
  rw [c_Of hC (show C.base 0 < 9223372036854775808 by omega), hof]
  simp only [c_Chunk hC (Int.le_refl 0) (by decide), c_PeekA hN hA3 hcb.1 hcb.2, c_wChunk hwc.1 hwc.2, g4, p0, p3, ruS, ruL, ruE, Nat.reduceAdd, reduceIte, Int.reduceLT, Int.reduceLE, Int.reduceEq, Int.reduceNeg, Int.reduceAdd, Int.reduceSub, Nat.reduceLeDiff, Nat.reduceLT]
  rw [IntWalk.i64_in (chN (A3.w (C.chunk 0)) + 1) (by omega)]
  simp only [p0, p3, sub4, c_PutChunk, ruS, ruL, ruE, Nat.reduceAdd, reduceIte, Int.reduceLT, Int.reduceLE, Int.reduceEq, Int.reduceNeg, Int.reduceAdd, Int.reduceSub, Nat.reduceLeDiff, Nat.reduceLT]
  refine c_StoreA hN hA3 hcb.1 hcb.2 hok (by omega) (putChunk_in _ _ _ _) fun A4 τ4 aft ok4 hA4 k4 => ?_
  have ext4 := ext3.keep' k4 hfr.all
  have ew : A4.w = upd A3.w (C.chunk 0) (putChunk 2 (chC (A3.w (C.chunk 0))) (chU (A3.w (C.chunk 0))) (chN (A3.w (C.chunk 0)) + 1)) := aft.w
  have hd4 : A4.w (C.base 0) = putHead 2 z 0 1 false := by rw [ew, upd_ne _ _ (by omega)]; exact hd3
  have hn4 : A4.n = A3.n := aft.n
  have hbb : 0 ≤ C.base 0 ∧ C.base 0 < A4.n := by omega
  obtain ⟨q1, q2, q3, q4, q5⟩ := hd_put (k := 2) (s := z) (t := 0) (g := 1) (o := false) (by decide) (by omega) (by decide) (by decide)
  simp only [c_PeekA hN hA4 hbb.1 hbb.2, hd4, c_wHead (putHead_in _ _ _ _ _).1 (putHead_in _ _ _ _ _).2, q1, q2, q3, q4, q5, gStoreE, g5, s5, ruS, ruL, ruE, Nat.reduceAdd, reduceIte, Int.reduceLT, Int.reduceLE, Int.reduceEq, Int.reduceNeg, Int.reduceAdd, Int.reduceSub, Nat.reduceLeDiff, Nat.reduceLT]
  have haw := hfst.aw
  have cs : ∀ c, 0 ≤ c → A4.w (C.base 0 + 1 + c) = A3.w (C.base 0 + 1 + c) := fun c c0 => by rw [ew, upd_ne _ _ (by omega)]
  have cl : chS (putChunk 2 (chC (A3.w (C.chunk 0))) (chU (A3.w (C.chunk 0))) (chN (A3.w (C.chunk 0)) + 1)) = 2 := by unfold chS putChunk cl; omega
  have elo : ∀ y, y < C.base 0 → y ≠ C.chunk 0 → A4.w y = A2.w y := fun y y0 y1 => by rw [ew, upd_ne _ _ y1]; exact hsame y (by omega)
  have ek : ∀ j, C.chunk j = C.chunk 0 + 3 * j := fun j => by unfold Cf.chunk; omega
  have u1 : ∀ j, 1 ≤ j → upd (fun _ => (0 : Int)) 0 (roomOf (classOf z)) j = 0 := fun j j1 => upd_ne _ _ (by omega)
  refine hk N A4 τ4 hN hA4 ext4 hfr ⟨by rw [elo _ (by omega) (by omega)]; exact hfst.W, hd4, fun x x0 x1 => ?_, ?_, fun j j0 j1 => ?_, fun j j0 j1 => ?_, ok_mono ok4 (by omega), hn4.trans hn3⟩ ⟨fun j k j0 j1 k0 k1 => ?_, ?_, fun j j0 j1 => ?_, ?_, ok_mono ok4 (by omega)⟩
  ·rw [cs x x0, hcell x x0 x1]
   unfold valW
   by_cases c : x < i
   ·rw [if_pos c, if_pos (by omega)]; omega
   ·rw [if_neg c, if_neg (by omega)]; omega
  ·rw [elo _ (by omega) (by omega)]
   have := (haw.alo.op (classOf z) hcl hc3).1
   rw [this]; show upd (fun _ => (-1 : Int)) (classOf z) 0 (classOf z) + 1 = 0 + 1; rw [upd_same]
  ·rw [show j = 0 by omega, ew, upd_same]; exact cl
  ·rw [elo _ (by rw [ek]; omega) (by rw [ek]; omega)]; exact (haw.alo.new j (by show (1 : Int) ≤ j; omega) j1).1
  ·have hm := mulW hC (k := j) (by omega) (by omega)
   have hbj : C.base j = C.base 0 + C.W * j := by unfold Cf.base; omega
   have hmj : C.W * 1 ≤ C.W * j := Int.mul_le_mul_of_nonneg_left (by omega) (by omega)
   rw [ew, upd_ne _ _ (by omega), hsame _ (by omega)]
   exact haw.nil j k (by omega) j1 (by show upd (fun _ => (0 : Int)) 0 _ j ≤ k; rw [u1 j j0]; exact k0) k1
  ·rw [elo _ (by omega) (by omega), haw.live 0 (by omega) (by omega)]; exact upd_same (fun _ => 0) 0 _
  ·rw [elo _ (by rw [ek]; omega) (by rw [ek]; omega), haw.live j (by omega) j1]; exact u1 j j0
  ·refine haw.fre.congr (elo 1 (by omega) (by omega)) fun s s0 s1 => elo _ (by unfold Cf.slot; omega) (by unfold Cf.slot; omega)
 by_cases c1 : i < z
 ·by_cases c2 : i < len
  ·simp only [c1, c2, w_a9_j3, w_a9_j3b, ruS, ruL, ruE, Nat.reduceAdd, reduceIte, Int.reduceLT, Int.reduceLE, Int.reduceEq, Int.reduceNeg, Int.reduceAdd, Int.reduceSub, Nat.reduceLeDiff, Nat.reduceLT]
   rw [hg3.ix i0 c2]
   simp only [andI65535, b5, ruS, ruL, ruE, Nat.reduceAdd, reduceIte, Int.reduceLT, Int.reduceLE, Int.reduceEq, Int.reduceNeg, Int.reduceAdd, Int.reduceSub, Nat.reduceLeDiff, Nat.reduceLT]
   refine c_AccL hN hC hA3 hol hok (by omega) (by omega) (by omega) fun m A4 τ4 hD hA4 k4 => ?_
   have ext4 := ext3.keep' k4 hfr.all
   rw [IntWalk.i64_in (i + 1) (by omega)]
   have hv : 0 ≤ g i % 65536 ∧ g i % 65536 ≤ 65535 := by omega
   have ew : A4.w = upd A3.w (C.base 0 + 1 + i) (g i % 65536) := by
    rcases hD.r with ⟨q, _⟩ | ⟨_, _, _, ⟨q, _⟩ | ⟨_, _, _, q⟩⟩
    ·exact absurd ⟨i0, c1⟩ q
    ·rcases q with q | ⟨q, _⟩ <;> cases q
    ·rw [q]
     show upd A3.w (C.base 0 + 1 + i) (putCell (g i % 65536) false 0) = _
     rw [putCell_lay (by omega)]
   refine hR _ c1 ⟨A4, by omega, by omega, by omega, hA4, ?_, ok_mono (hD.ok _ hok) (by omega), hD.n.trans hn3, fun y hy => ?_, fun x x0 x1 => ?_, ext4⟩
   ·rw [ew, ← putCell_lay (v := g i % 65536) (by omega)]; exact hol.lay hC i0 c1
   ·rw [ew, upd_ne _ _ (by omega)]; exact hsame y hy
   ·rw [ew]
    by_cases e : x = i
    ·subst e; rw [upd_same, if_pos (by omega)]
    ·rw [upd_ne _ _ (by omega), hcell x x0 x1]
     by_cases c : x < i
     ·rw [if_pos c, if_pos (by omega)]
     ·rw [if_neg c, if_neg (by omega)]
  ·simp only [c1, c2, ruS, ruL, ruE, Nat.reduceAdd, reduceIte, Int.reduceLT, Int.reduceLE, Int.reduceEq, Int.reduceNeg, Int.reduceAdd, Int.reduceSub, Nat.reduceLeDiff, Nat.reduceLT]
   exact fin (.inr (by omega))
 ·simp only [c1, ruS, ruL, ruE, Nat.reduceAdd, reduceIte, Int.reduceLT, Int.reduceLE, Int.reduceEq, Int.reduceNeg, Int.reduceAdd, Int.reduceSub, Nat.reduceLeDiff, Nat.reduceLT]
  exact fin (.inl (by omega))
theorem c_awake11 : s_a7 [] K σ = K (.bool true) σ := by unfold s_a7; exact nr rfl
theorem c_where (hN : N.ok) (hC : C.ok) (hA : isA N A σ) (hn : C.len ≤ A.n) (hw : 0 ≤ A.w (C.slot 0) ∧ A.w (C.slot 0) < 18446744073709551616) : s_bb [N.env C who, .int .u64 65536] K σ = K (.agg #[.int .i64 (slS (A.w (C.slot 0))), .int .i64 (slA (A.w (C.slot 0))), .int .i64 (slG (A.w (C.slot 0))), .int .i64 (slV (A.w (C.slot 0)))]) σ := by
 have g4 : ∀ {k : Nat} {x y z w : Int}, gStore 4 [.pointer (some ⟨k, 0, some 0⟩), .agg #[.int .i64 x, .int .i64 y, .int .i64 z, .int .i64 w]] [.int .i64 0, .int .i64 0, .int .i64 0, .int .i64 0] = some [.int .i64 x, .int .i64 y, .int .i64 z, .int .i64 w] := fun {_ _ _ _ _} => rfl
 have g2 : ∀ {k : Nat} {x y : Int}, gStore 2 [.pointer (some ⟨k, 0, some 0⟩), .agg #[.int .i64 x, .int .i64 y]] [.int .i64 0, .int .i64 0] = some [.int .i64 x, .int .i64 y] := fun {_ _ _} => rfl
 have hT := hC.T; have hS := hC.S; have hC3 := hC.C; have hl := len_bd hC
 have hch : C.chunk C.C = 6 + C.T + 2 * C.S + 3 * C.C := rfl
 have hsb : 0 ≤ C.slot 0 ∧ C.slot 0 < A.n := by unfold Cf.slot; omega
 simp only [s_bb, w_bb, ruS, ruL, ruE, Nat.reduceAdd, reduceIte, Int.reduceLT, Int.reduceLE, Int.reduceEq, Int.reduceNeg, Int.reduceAdd, Int.reduceSub, Nat.reduceLeDiff, Nat.reduceLT]
 rw [c_wHandleG (by decide) (by decide)]
 simp only [g2, h65.1, h65.2.1, h65.2.2, c_Slot hC (Int.le_refl 0) (by decide), c_PeekA hN hA hsb.1 hsb.2, c_wSlot hw.1 hw.2, g4, sub4, ruS, ruL, ruE, Nat.reduceAdd, reduceIte, Int.reduceLT, Int.reduceLE, Int.reduceEq, Int.reduceNeg, Int.reduceAdd, Int.reduceSub, Nat.reduceLeDiff, Nat.reduceLT]
end Go.Fl
namespace Go.Fl
open Go
set_option linter.unusedVariables false
set_option linter.unusedSimpArgs false
variable {N : Nm} {A B : Ar} {σ : Mem} {K : Value → Mem → Prop} {C : Cf} {who : Int}
def Fzd (v x : Int) : Prop := ceF x = true ∧ ceN x = v
end Go.Fl
namespace Go.Fl
open Go
set_option linter.unusedVariables false
set_option linter.unusedSimpArgs false
variable {N : Nm} {A B : Ar} {σ : Mem} {K : Value → Mem → Prop} {C : Cf} {who : Int}
structure Geo (C : Cf) (z c : Int) : Prop where
 hC : C.ok
 hz : 0 ≤ classOf z
 hc : 0 ≤ c ∧ c + 1 < C.C
 hR : C.R = 3
structure Geq (C : Cf) (z c : Int) : Prop where
 zb : 1 ≤ z ∧ z ≤ 16
 kb : 0 ≤ classOf z ∧ classOf z ≤ 3
 rb : z + 1 ≤ roomOf (classOf z) ∧ roomOf (classOf z) ≤ 17
 nb : C.base (c + 1) = C.base c + C.W
 Wb : 17 ≤ C.W
 b0 : 6 + C.T + 2 * C.S + 3 * C.C ≤ C.base c ∧ C.base 0 = 6 + C.T + 2 * C.S + 3 * C.C
 l1 : C.base c + 2 * C.W ≤ C.len
 l2 : C.len ≤ 200000
 s : C.slot 0 = 6 + C.T
 ch : ∀ j, C.chunk j = 6 + C.T + 2 * C.S + 3 * j
 Tb : 1 ≤ C.T ∧ C.T ≤ 8
 Sb : 1 ≤ C.S ∧ C.S ≤ 65536
 Cb : 1 ≤ C.C ∧ C.C ≤ 64
 of : ofC C (C.base c) = c
theorem Geo.eq {z c : Int} (g : Geo C z c) : Geq C z c := by
 have hC := g.hC
 have hz := class_room' g.hz
 have h3 := (class_bd z).2
 have hr := room_bd g.hz h3
 have hT := hC.T; have hS := hC.S; have hCC := hC.C; have hW := hC.W; have hl := len_bd hC
 have hc := g.hc
 have hm := mulW hC hc.1 (by omega)
 have hb : C.base (c + 1) = C.base c + C.W := by unfold Cf.base; rw [Int.mul_add]; omega
 have hlen : C.base (c + 1) + (C.W - 1) < C.len := (base_of hC (j := c + 1) (i := C.W - 1) (by omega) (by omega) (by omega) (by omega)).2.2
 have hof := (base_of hC (j := c) (i := 0) hc.1 (by omega) (by omega) (by omega)).1
 rw [Int.add_zero] at hof
 exact ⟨hz.1, ⟨g.hz, h3⟩, by omega, hb, hW.1, ⟨by unfold Cf.base; omega, by unfold Cf.base; omega⟩, by omega, hl.2, by unfold Cf.slot; omega, fun j => rfl, hT, hS, hCC, hof⟩
structure TbM (C : Cf) (z c : Int) (T : Int → Int) : Prop where
 tb : Tb C (classOf z) T
 o : T (2 + classOf z) = c + 1
 ev : ∀ j, 0 ≤ j → j ≤ c → chS (T (C.chunk j)) = 2
 nx : T (C.chunk (c + 1)) = 0
def T3 (C : Cf) (z c : Int) (T : Int → Int) : Int → Int := upd (t2 C (classOf z) (c + 1) T) (C.chunk (c + 1)) (putChunk 1 (classOf z) (roomOf (classOf z)) (chN (T (C.chunk (c + 1))) + 1))
def ClA (C : Cf) (z c : Int) (L : Int → Int) (V st : Int) (w : Int → Int) : Prop :=
 ∀ x, 0 ≤ x → x < z → ceV (w (C.base c + 1 + x)) = L x ∧ (ceF (w (C.base c + 1 + x)) = true → ceN (w (C.base c + 1 + x)) ≤ V ∧ (st = 1 → ceN (w (C.base c + 1 + x)) < V))
def Cn (C : Cf) (z c : Int) (x y : Int) (w : Int → Int) : Prop := w (C.chunk c + 1) = x ∧ w (C.chunk (c + 1) + 1) = y
def Rnd (C : Cf) (z c : Int) (L : Int → Int) (V st q : Int) (m : Mv) (w : Int → Int) : Prop :=
 ∃ Vm, m.a.w = putSlot 1 (C.base c) 1 Vm ∧ 0 ≤ Vm ∧ Vm ≤ 4194301 ∧
  (m.a.pc = 4 ∧ m.a.i < z ∨ m.a.pc = 5 ∧ m.a.i < z ∨ m.a.pc = 6 ∧ m.a.i < z ∨ m.a.pc = 7 ∧ m.a.i = z) ∧
  (st = 2 ∧ V = Vm ∧ (∀ x, 0 ≤ x → x < m.a.i → Fzd V (w (C.base c + 1 + x)) ∧ w (C.base (c + 1) + 1 + x) = L x) ∧ (m.a.pc = 6 → Fzd V (w (C.base c + 1 + m.a.i)) ∧ ceV m.a.cell = L m.a.i) ∨ st = 1 ∧ Vm < V) ∧
  (3 * (z - m.a.i) + 1 + (if m.a.pc = 5 then (if w (C.base c + 1 + m.a.i) = m.a.cell then -1 else 1) else if m.a.pc = 6 then -2 else 0) + (if st = 2 then 4 else 3 * z + 12) ≤ q)
structure MI (P : Prop) (C : Cf) (z c : Int) (T L : Int → Int) (V st : Int) (loc : Bool) (q : Int) (m : Mv) (w : Int → Int) : Prop where
  con : m.a.addr = C.base c ∧ m.a.hk = 2 ∧ m.a.hz = z ∧ m.a.hs = 0 ∧ m.a.hg = 1 ∧ m.a.ho = false
  wb : 0 ≤ m.a.w ∧ m.a.w < 18446744073709551616
  cb : 0 ≤ m.a.cell ∧ m.a.cell < 18446744073709551616
  ib : 0 ≤ m.a.i ∧ m.a.i ≤ z
  nb : 0 ≤ m.a.nn ∧ m.a.nn ≤ 3
  vb : 0 ≤ V ∧ V ≤ 4194303
  sl : w (C.slot 0) = putSlot st (if loc = true then C.base (c + 1) else C.base c) 1 V
  hda : w (C.base c) = putHead 2 z 0 1 false
  ph : (loc = false ∧ ClA C z c L V st w ∧ (P → Cn C z c (roomOf (classOf z)) 0 w) ∧
      (st = 1 ∧ m.a.got = false ∧ m.a.nn = 0 ∧ (m.a.pc = 0 ∧ Cw C (classOf z) w T ∧ 3 * z + 40 + c ≤ q ∨ m.a.pc = 1 ∧ m.a.w = putSlot 1 (C.base c) 1 V ∧ V ≤ 4194301 ∧ ∃ k, PlG C (classOf z) T k m.t w ∧ 0 ≤ k ∧ 3 * z + 39 + c - k ≤ q ∧ k ≤ 10 + c) ∨
       m.a.got = true ∧ (m.a.sa = C.base (c + 1) ∧ m.a.sc = c + 1) ∧ Cw C (classOf z) w (T3 C z c T) ∧
        (st = 1 ∧ m.a.pc = 2 ∧ m.a.w = putSlot 1 (C.base c) 1 V ∧ V ≤ 4194301 ∧ m.a.nn = 0 ∧ 3 * z + 9 ≤ q ∨
         w (C.base (c + 1)) = putHead 1 z 0 1 false ∧
          (st = 1 ∧ m.a.pc = 3 ∧ m.a.w = putSlot 1 (C.base c) 1 V ∧ V ≤ 4194301 ∧ m.a.nn ≤ 2 ∧ 3 * z + 6 ≤ q ∨
           st = 1 ∧ m.a.pc = 0 ∧ m.a.nn ≤ 2 ∧ 3 * z + 9 ≤ q ∨
           m.a.nn ≤ 2 ∧ Rnd C z c L V st q m w ∨
           st = 1 ∧ m.a.pc = 11 ∧ m.a.out = 3 ∧ 1 ≤ q)))) ∨
    (loc = true ∧ st = 1 ∧ 1 ≤ V ∧ m.a.got = true ∧ (m.a.sa = C.base (c + 1) ∧ m.a.sc = c + 1) ∧ Cw C (classOf z) w (T3 C z c T) ∧
      (∀ x, 0 ≤ x → x < z → Fzd (V - 1) (w (C.base c + 1 + x)) ∧ w (C.base (c + 1) + 1 + x) = L x ∧ 0 ≤ L x ∧ L x ≤ 1099511627775) ∧
      (m.a.pc = 8 ∧ w (C.base (c + 1)) = putHead 1 z 0 1 false ∧ (P → Cn C z c (roomOf (classOf z)) 0 w) ∧ 3 ≤ q ∨
       w (C.base (c + 1)) = putHead 2 z 0 1 false ∧ (m.a.pc = 9 ∧ (P → Cn C z c (roomOf (classOf z)) 0 w) ∧ 2 ≤ q ∨ m.a.pc = 10 ∧ (P → Cn C z c (roomOf (classOf z)) (roomOf (classOf z)) w) ∧ 1 ≤ q)))
structure MD (P : Prop) (C : Cf) (z c : Int) (T L : Int → Int) (V : Int) (loc : Bool) (m : Mv) (w : Int → Int) : Prop where
 con : m.a.addr = C.base c
 vb : 0 ≤ V ∧ V ≤ 4194303
 sl : w (C.slot 0) = putSlot 1 (if loc = true then C.base (c + 1) else C.base c) 1 V
 hda : w (C.base c) = putHead 2 z 0 1 false
 r : loc = true ∧ m.a.out = 1 ∧ 1 ≤ V ∧ m.a.got = true ∧ (m.a.sa = C.base (c + 1) ∧ m.a.sc = c + 1) ∧ Cw C (classOf z) w (T3 C z c T) ∧ (∀ x, 0 ≤ x → x < z → Fzd (V - 1) (w (C.base c + 1 + x)) ∧ w (C.base (c + 1) + 1 + x) = L x ∧ 0 ≤ L x ∧ L x ≤ 1099511627775) ∧
    w (C.base (c + 1)) = putHead 2 z 0 1 false ∧ (P → Cn C z c 0 (roomOf (classOf z)) w) ∨
   loc = false ∧ m.a.out = 3 ∧ ClA C z c L V 1 w
theorem MI.mono {P : Prop} {z c V st q q' : Int} {T L : Int → Int} {loc : Bool} {m : Mv} {w : Int → Int} (h : MI P C z c T L V st loc q m w) (hq : q ≤ q') : MI P C z c T L V st loc q' m w := by
 refine ⟨h.con, h.wb, h.cb, h.ib, h.nb, h.vb, h.sl, h.hda, ?_⟩
 rcases h.ph with ⟨e, hc, hn, h⟩ | ⟨e1, e2, e3, e4, e5, e6, e7, h⟩
 ·refine .inl ⟨e, hc, hn, ?_⟩
  rcases h with ⟨g1, g2, g3, ⟨g4, g5, g6⟩ | ⟨g4, g5, g6, k, g7, g8, g9, g10⟩⟩ | ⟨g1, g2, g3, ⟨g4, g5, g6, g7, g8, g9⟩ | ⟨g4, h⟩⟩
  ·exact .inl ⟨g1, g2, g3, .inl ⟨g4, g5, by omega⟩⟩
  ·exact .inl ⟨g1, g2, g3, .inr ⟨g4, g5, g6, k, g7, g8, by omega, g10⟩⟩
  ·exact .inr ⟨g1, g2, g3, .inl ⟨g4, g5, g6, g7, g8, by omega⟩⟩
  ·refine .inr ⟨g1, g2, g3, .inr ⟨g4, ?_⟩⟩
   rcases h with ⟨h1, h2, h3, h4, h5, h6⟩ | ⟨h1, h2, h3, h4⟩ | ⟨h1, Vm, h2, h3, h4, h5, h6, h7⟩ | ⟨h1, h2, h3, h4⟩
   ·exact .inl ⟨h1, h2, h3, h4, h5, by omega⟩
   ·exact .inr (.inl ⟨h1, h2, h3, by omega⟩)
   ·exact .inr (.inr (.inl ⟨h1, Vm, h2, h3, h4, h5, h6, by omega⟩))
   ·exact .inr (.inr (.inr ⟨h1, h2, h3, by omega⟩))
 ·refine .inr ⟨e1, e2, e3, e4, e5, e6, e7, ?_⟩
  rcases h with ⟨h1, h2, h3, h4⟩ | ⟨h1, ⟨h2, h3, h4⟩ | ⟨h2, h3, h4⟩⟩
  ·exact .inl ⟨h1, h2, h3, by omega⟩
  ·exact .inr ⟨h1, .inl ⟨h2, h3, by omega⟩⟩
  ·exact .inr ⟨h1, .inr ⟨h2, h3, by omega⟩⟩
structure Tm (C : Cf) (z c : Int) (A A' : Ar) (m' : Mv) : Prop where
 s : A'.s = A.s + 1
 n : A'.n = A.n
 ok : ∀ bb, A.ok bb → bb < 4611686018427387904 → A'.ok (bb + 1)
 la : 0 ≤ A'.la ∧ A'.la < C.len
 k9 : A'.la < C.base 0 ∨ A'.lc = false ∨ (C.base c < A'.la ∧ A'.la ≤ C.base c + z) ∨ m'.a.got = true ∧ m'.a.sa ≤ A'.la ∧ A'.la ≤ m'.a.sa + z
theorem TbM.ngd {z c : Int} {T : Int → Int} (h : TbM C z c T) (hc : 0 ≤ c) : ¬ gdT C (classOf z) T := by
 rintro ⟨_, h1, _⟩
 rw [h.o, show c + 1 - 1 = c by omega, h.ev c hc (Int.le_refl _)] at h1
 omega
theorem TbM.ff {z c f : Int} {T : Int → Int} (h : TbM C z c T) (hc : 0 ≤ c) (hf : ffT C T f) : f = c + 1 := by
 obtain ⟨f1, f2, f3, f4⟩ := hf
 by_cases a : f ≤ c
 ·rw [h.ev f f1.1 a] at f2; omega
 ·by_cases b : c + 1 < f
  ·have := f4 (c + 1) (by omega) b
   rw [h.nx] at this
   exact absurd rfl this
  ·omega
theorem MI.fit {P : Prop} {z c V st q : Int} {T L : Int → Int} {loc : Bool} {m : Mv} (g : Geo C z c) (h : MI P C z c T L V st loc q m A.w) (hT : TbM C z c T) (hn : C.len ≤ A.n) (hn2 : (A.n : Int) ≤ 200000000) : m.fit C A := by
 have e := g.eq
 have ez := e.zb; have ek := e.kb; have er := e.rb; have eb := e.nb; have eW := e.Wb; have eb0 := e.b0; have el := e.l1; have eC := e.Cb; have eS := e.Sb; have eT := e.Tb; have ec := g.hc
 obtain ⟨c1, c2, c3, c4, c5, c6⟩ := h.con
 have hib := h.ib
 have hnb := h.nb
 have pcs : (0 ≤ m.a.pc ∧ m.a.pc ≤ 11) ∧ (m.a.pc = 1 → m.t.fit C ∧ A.w (2 + m.t.cls) ≤ C.C) ∧ (m.a.pc = 4 ∨ m.a.pc = 5 ∨ m.a.pc = 6 → m.a.i < z) ∧ (m.a.pc = 2 ∨ m.a.pc = 6 ∨ m.a.pc = 8 ∨ m.a.pc = 9 ∨ m.a.pc = 11 → m.a.sa = C.base (c + 1) ∧ m.a.sc = c + 1) := by
  rcases h.ph with ⟨_, _, _, ⟨g1, g2, g3, ⟨g4, _⟩ | ⟨g4, _, _, k, g7, _⟩⟩ | ⟨g1, g2, g3, ⟨_, g4, _⟩ | ⟨_, ⟨_, g4, _⟩ | ⟨_, g4, _⟩ | ⟨_, Vm, _, _, _, g4, _⟩ | ⟨_, g4, _⟩⟩⟩⟩ | ⟨_, _, _, _, g2, _, _, ⟨g4, _⟩ | ⟨_, ⟨g4, _⟩ | ⟨g4, _⟩⟩⟩
  ·exact ⟨by omega, fun x => by omega, fun x => by omega, fun x => by omega⟩
  ·exact ⟨by omega, fun _ => g7.fit g.hC hT.tb, fun x => by omega, fun x => by omega⟩
  ·exact ⟨by omega, fun x => by omega, fun x => by omega, fun _ => g2⟩
  ·exact ⟨by omega, fun x => by omega, fun x => by omega, fun _ => g2⟩
  ·exact ⟨by omega, fun x => by omega, fun x => by omega, fun _ => g2⟩
  ·exact ⟨by omega, fun x => by omega, fun x => by omega, fun _ => g2⟩
  ·exact ⟨by omega, fun x => by omega, fun x => by omega, fun _ => g2⟩
  ·exact ⟨by omega, fun x => by omega, fun x => by omega, fun _ => g2⟩
  ·exact ⟨by omega, fun x => by omega, fun x => by omega, fun _ => g2⟩
  ·exact ⟨by omega, fun x => by omega, fun x => by omega, fun _ => g2⟩
 obtain ⟨p1, p2, p3, p4⟩ := pcs
 refine ⟨p1, by rw [c4]; omega, h.wb, h.cb, by rw [c3]; exact g.hz, by omega, by omega, hn2, p2, fun x => ?_, fun x => ?_, fun x => ?_, fun x => ?_, fun x => ?_⟩
 ·have := p4 (by omega); omega
 ·have := p3 (by omega); rw [c1]; omega
 ·have := p3 (by omega); have := p4 (by omega); omega
 ·have := p4 (by omega); omega
 ·rw [c1, e.of]; omega
end Go.Fl
namespace Go.Fl
open Go
set_option linter.unusedVariables false
set_option linter.unusedSimpArgs false
variable {N : Nm} {A B : Ar} {σ : Mem} {K : Value → Mem → Prop} {C : Cf} {who : Int}
theorem endm_got {a : Mo} {e : Int} (h : a.got = true) : a.endm e = { a with out := e, pc := 11 } := by unfold Mo.endm; rw [if_pos h]
structure Cln (m : Mv) (V st : Int) : Prop where
 n : m.a.nn = 0
 p : m.a.pc ≠ 11
 p0 : m.a.pc = 0 → m.a.got = false ∧ V ≤ 4194301
 r : 4 ≤ m.a.pc → m.a.pc ≤ 7 → st = 2
theorem ClA.upd {z c V st y v : Int} {L : Int → Int} {w : Int → Int} (h : ClA C z c L V st w) (hy : y ≤ C.base c ∨ C.base c + z < y) : ClA C z c L V st (upd w y v) := fun x x0 x1 => by
 rw [upd_ne _ _ (by omega)]; exact h x x0 x1
theorem ClA.st {z c V V' st st' : Int} {L : Int → Int} {w : Int → Int} (h : ClA C z c L V st w) (hV : V ≤ V') (hs : st' = 1 → st = 1 ∨ V < V') : ClA C z c L V' st' w := fun x x0 x1 => by
 obtain ⟨h1, h2⟩ := h x x0 x1
 refine ⟨h1, fun e => ?_⟩
 obtain ⟨h3, h4⟩ := h2 e
 refine ⟨by omega, fun e1 => ?_⟩
 rcases hs e1 with q | q
 ·have := h4 q; omega
 ·omega
theorem Cn.upd {z c x y a v : Int} {w : Int → Int} (h : Cn C z c x y w) (h1 : a ≠ C.chunk c + 1) (h2 : a ≠ C.chunk (c + 1) + 1) : Cn C z c x y (upd w a v) :=
 ⟨by rw [upd_ne _ _ (Ne.symm h1)]; exact h.1, by rw [upd_ne _ _ (Ne.symm h2)]; exact h.2⟩
theorem Geq.cw {z c y v : Int} {w T : Int → Int} (e : Geq C z c) (h : Cw C (classOf z) w T) (hy : y = C.slot 0 ∨ C.base c ≤ y ∨ y = C.chunk c + 1 ∨ y = C.chunk (c + 1) + 1) (hc : 0 ≤ c) : Cw C (classOf z) (upd w y v) T := by
 have ek := e.kb; have eb0 := e.b0; have es := e.s; have eT := e.Tb; have eS := e.Sb; have eC := e.Cb; have ech := e.ch; have eW := e.Wb; have enb := e.nb
 have e1 := ech c; have e2 := ech (c + 1)
 refine h.upd (by omega) fun j j0 j1 => ?_
 have := ech j
 omega
theorem MI.step {P : Prop} {z c V st q bb : Int} {T L : Int → Int} {loc : Bool} {m : Mv} (g : Geo C z c) (h : MI P C z c T L V st loc q m A.w) (hT : TbM C z c T) (ok : A.ok bb) (hb : bb < 4611686018427387904) :
    Tm C z c A (m.step C who A).2.2 (m.step C who A).2.1 ∧
    ((m.step C who A).1 = false ∧ (∃ V' st' loc', MI P C z c T L V' st' loc' (q - 1) (m.step C who A).2.1 (m.step C who A).2.2.w ∧ (loc' = loc ∧ V' = V ∨ loc = false ∧ loc' = true ∧ V' = V + 1) ∧ (Cln m V st → Cln (m.step C who A).2.1 V' st')) ∨
     (m.step C who A).1 = true ∧ MD P C z c T L V loc (m.step C who A).2.1 (m.step C who A).2.2.w ∧ (Cln m V st → (m.step C who A).2.1.a.out = 1)) := by
  have hC := g.hC
  have e := g.eq
  have ez := e.zb; have ek := e.kb; have er := e.rb; have eb := e.nb; have eW := e.Wb; have eb0 := e.b0; have el := e.l1; have el2 := e.l2; have eC := e.Cb; have eS := e.Sb; have eT := e.Tb; have ec := g.hc; have es := e.s
  have ech1 := e.ch c; have ech2 := e.ch (c + 1)
  have eR := g.hR
  obtain ⟨c1, c2, c3, c4, c5, c6⟩ := h.con
  have hwb := h.wb; have hcb := h.cb; have hib := h.ib; have hnb := h.nb; have hvb := h.vb; have hsl := h.sl; have hda := h.hda
  have tl : ∀ x m', 0 ≤ x → x < C.len → Tm C z c A ((A.by who).load x) m' := fun x m' x0 x1 => by
    have a1 := aft_load (who := who) (A := A) (a := x) ok (by omega)
    exact ⟨a1.s, rfl, fun b2 o2 hb2 => a1.ok (by omega) o2 o2.w, ⟨x0, x1⟩, .inr (.inl rfl)⟩
  have ts : ∀ y v (m' : Mv), 0 ≤ y → y < C.len → (0 ≤ v ∧ v < 18446744073709551616) → (y < C.base 0 ∨ C.base c < y ∧ y ≤ C.base c + z ∨ m'.a.got = true ∧ m'.a.sa ≤ y ∧ y ≤ m'.a.sa + z) → Tm C z c A ((A.by who).store y v) m' := fun y v m' y0 y1 hv hy => by
    have a1 := aft_store (who := who) (A := A) (a := y) (v := v) ok (by omega)
    refine ⟨a1.s, a1.n, fun b2 o2 hb2 => a1.ok (by omega) o2 fun i => upd_cases (P := fun x => 0 ≤ x ∧ x < 18446744073709551616) hv (ok.w i), ⟨y0, y1⟩, ?_⟩
    rcases hy with q | q | q
    · exact .inl q
    · exact .inr (.inr (.inl q))
    · exact .inr (.inr (.inr q))
  have sw : ∀ y v, ((A.by who).store y v).w = upd A.w y v := fun y v => store_w
  have adb : C.base c ≤ 1048575 ∧ C.base (c + 1) ≤ 1048575 := by omega
  have hsb : 0 ≤ C.slot 0 ∧ C.slot 0 < C.len := by omega
  have spa : ∀ st' V', (0 ≤ st' ∧ st' ≤ 7) → (0 ≤ V' ∧ V' ≤ 4194303) → slS (putSlot st' (C.base c) 1 V') = st' ∧ slA (putSlot st' (C.base c) 1 V') = C.base c ∧ slG (putSlot st' (C.base c) 1 V') = 1 ∧ slV (putSlot st' (C.base c) 1 V') = V' := fun st' V' h1 h2 => sl_put h1 (by omega) (by decide) h2
  -- the slot's word as it is seen
  have seen : loc = false → st = 1 → slS (A.w (C.slot m.a.hs)) = 1 ∧ slA (A.w (C.slot m.a.hs)) = C.base c ∧ slG (A.w (C.slot m.a.hs)) = 1 ∧ slV (A.w (C.slot m.a.hs)) = V := fun q1 q2 => by
    rw [c4, hsl, q1, if_neg (by decide), q2]; exact spa 1 V (by decide) hvb
  rcases h.ph with ⟨hloc, hcl, hcn, ⟨g1, g2, g3, ⟨p, g4, g5⟩ | ⟨p, g4, g5, k, g6, g7, g8, g9⟩⟩ | ⟨g1, ⟨g2, g3⟩, g4, ⟨g5, p, g6, g7, g8, g9⟩ | ⟨hb1, ⟨g5, p, g6, g7, g8, g9⟩ | ⟨g5, p, g6, g7⟩ | ⟨g5, Vm, g6, g7, g8, g9, g10, g11⟩ | ⟨g5, p, g6, g7⟩⟩⟩⟩ | ⟨hloc, g1, g2, g3, ⟨g4, g5⟩, g6, g7, ⟨p, g8, g9, g10⟩ | ⟨g8, ⟨p, g9, g10⟩ | ⟨p, g9, g10⟩⟩⟩
  · -- seeing, at first
    obtain ⟨s1, s2, s3, s4⟩ := seen hloc g1
    have n1 : ¬ (slS (A.w (C.slot m.a.hs)) = 4 ∧ slG (A.w (C.slot m.a.hs)) = m.a.hg ∧ slA (A.w (C.slot m.a.hs)) = m.a.addr) := by rw [s1]; omega
    have n2 : ¬ (slS (A.w (C.slot m.a.hs)) ≠ 1 ∨ slG (A.w (C.slot m.a.hs)) ≠ m.a.hg ∨ slA (A.w (C.slot m.a.hs)) ≠ m.a.addr) := by rw [s1, s2, s3, c1, c5]; simp
    have hws := ok.w (C.slot m.a.hs)
    by_cases cv : 4194302 ≤ V
    · have es1 : m.step C who A = (!m.a.got, { m with a := ({ m.a with w := A.w (C.slot m.a.hs) } : Mo).endm 3 }, (A.by who).load (C.slot m.a.hs)) := by
        unfold Mv.step; rw [if_pos p, if_neg n1, if_neg n2, if_pos (by rw [s4]; exact cv)]
      rw [es1, g2]
      refine ⟨tl _ _ (by rw [c4]; omega) (by rw [c4]; omega), .inr ⟨rfl, ⟨c1, hvb, by have qq := hsl; rw [g1] at qq; exact qq, hda, .inr ⟨hloc, rfl, by have qq := hcl; rw [g1] at qq; exact qq⟩⟩, fun q => ?_⟩⟩
      have := (q.p0 p).2; omega
    · have es1 : m.step C who A = (false, ⟨{ m.a with w := A.w (C.slot m.a.hs), pc := 1 }, Pl.new (classOf m.a.hz)⟩, (A.by who).load (C.slot m.a.hs)) := by
        unfold Mv.step; rw [if_pos p, if_neg n1, if_neg n2, if_neg (by rw [s4]; exact cv), if_neg (by rw [g2]; decide)]
      rw [es1]
      refine ⟨tl _ _ (by rw [c4]; omega) (by rw [c4]; omega), .inl ⟨rfl, V, st, loc, ⟨h.con, hws, hcb, hib, hnb, hvb, hsl, hda, .inl ⟨hloc, hcl, hcn, .inl ⟨g1, g2, g3, .inr ⟨rfl, ?_, by omega, 0, ?_, Int.le_refl 0, by omega, by omega⟩⟩⟩⟩, .inl ⟨rfl, rfl⟩, fun q => ⟨q.n, by show (1 : Int) ≠ 11; decide, fun x => (by cases x), fun x => by have x' : (4 : Int) ≤ 1 := x; omega⟩⟩⟩
      · show A.w (C.slot m.a.hs) = _
        rw [c4, hsl, hloc, if_neg (by decide), g1]
      · show PlG C (classOf z) T 0 (Pl.new (classOf m.a.hz)) A.w
        rw [c3]
        exact ⟨⟨rfl, rfl⟩, .inl ⟨g4, .inl ⟨rfl, rfl, rfl⟩⟩⟩
  · -- getting words
    obtain ⟨⟨x, hx, hxx⟩, hst⟩ := g6.step (who := who) g.hC hT.tb
    have hxb : 0 ≤ x ∧ x < C.base 0 ∧ (x = 2 + classOf z ∨ ∃ j, 0 ≤ j ∧ j < C.C ∧ x = C.chunk j) := by
      rcases hx with rfl | ⟨j, j0, j1, rfl⟩
      · exact ⟨by omega, by omega, .inl rfl⟩
      · have := e.ch j; exact ⟨by omega, by omega, .inr ⟨j, j0, j1, rfl⟩⟩
    have tm : ∀ m', Tm C z c A (m.t.step C who A).2.2 m' := fun m' => by
      rcases hxx with q | ⟨v, hv, q⟩
      · rw [q]; exact tl _ _ hxb.1 (by omega)
      · rw [q]; exact ts _ _ _ hxb.1 (by omega) hv (.inl hxb.2.1)
    have sm : ∀ y, y ≠ x → (m.t.step C who A).2.2.w y = A.w y := fun y hy => by
      rcases hxx with q | ⟨v, hv, q⟩
      · rw [q]; rfl
      · rw [q, sw, upd_ne _ _ hy]
    have hxn : x ≠ C.slot 0 ∧ x ≠ C.chunk c + 1 ∧ x ≠ C.chunk (c + 1) + 1 ∧ ∀ y, C.base c ≤ y → x ≠ y := by
      rcases hxb.2.2 with q | ⟨j, j0, j1, q⟩
      · exact ⟨by omega, by omega, by omega, fun y hy => by omega⟩
      · have := e.ch j; exact ⟨by omega, by omega, by omega, fun y hy => by omega⟩
    have sl' : (m.t.step C who A).2.2.w (C.slot 0) = putSlot st (if loc = true then C.base (c + 1) else C.base c) 1 V := by rw [sm _ (Ne.symm hxn.1)]; exact hsl
    have hd' : (m.t.step C who A).2.2.w (C.base c) = putHead 2 z 0 1 false := by rw [sm _ (Ne.symm (hxn.2.2.2 _ (Int.le_refl _)))]; exact hda
    have cl' : ClA C z c L V st (m.t.step C who A).2.2.w := fun y y0 y1 => by rw [sm _ (Ne.symm (hxn.2.2.2 _ (by omega)))]; exact hcl y y0 y1
    have cn' : P → Cn C z c (roomOf (classOf z)) 0 (m.t.step C who A).2.2.w := fun x => ⟨by rw [sm _ (Ne.symm hxn.2.1)]; exact (hcn x).1, by rw [sm _ (Ne.symm hxn.2.2.1)]; exact (hcn x).2⟩
    have kle : k + 1 ≤ 10 + c ∨ (m.t.step C who A).1 = true := by
      by_cases kk : k + 1 ≤ 10 + c
      · exact .inl kk
      · right
        rcases hst with ⟨q, q2⟩ | ⟨q, _⟩
        · exfalso
          have hk9 : k + 1 ≤ 10 + c := by
            obtain ⟨_, ⟨_, ⟨_, _, hk⟩ | ⟨_, _, _, _, _, hk⟩ | ⟨_, _, _, _, _, hk⟩ | ⟨_, _, a0, a1, hk, _⟩⟩ | ⟨_, f, hf, ⟨_, _, _, _, _, hk⟩ | ⟨_, ⟨_, _, _, _, hk⟩ | ⟨_, _, _, _, hk⟩ | ⟨_, _, _, _, hk⟩⟩⟩⟩ := q2
            · omega
            · omega
            · omega
            · -- scanning goes no further than the free chunk
              by_cases a2 : (m.t.step C who A).2.1.at' ≤ c + 1
              · omega
              · have := a1 (c + 1) (by omega) (by omega)
                rw [hT.nx] at this
                exact absurd rfl this
            · have := hT.ff ec.1 hf; omega
            · have := hT.ff ec.1 hf; omega
            · have := hT.ff ec.1 hf; omega
            · have := hT.ff ec.1 hf; omega
          exact kk hk9
        · exact q
    rcases hst with ⟨d, hst⟩ | ⟨d, hst⟩
    · have es1 : m.step C who A = (false, { m with t := (m.t.step C who A).2.1 }, (m.t.step C who A).2.2) := by
        unfold Mv.step; rw [if_neg (by omega), if_pos p, if_pos d]
      have k1 : k + 1 ≤ 10 + c := by rcases kle with q | q; exact q; rw [d] at q; cases q
      rw [es1]
      exact ⟨tm _, .inl ⟨rfl, V, st, loc, ⟨h.con, hwb, hcb, hib, hnb, hvb, sl', hd', .inl ⟨hloc, cl', cn', .inl ⟨g1, g2, g3, .inr ⟨p, g4, g5, k + 1, hst, by omega, by omega, k1⟩⟩⟩⟩, .inl ⟨rfl, rfl⟩, fun q => ⟨q.n, q.p, q.p0, q.r⟩⟩⟩
    · obtain ⟨hcc, ⟨q1, _⟩ | ⟨_, f, hf, o1, o2, o3, o4⟩ | ⟨_, _, _, o4⟩⟩ := hst
      · exact absurd q1 (hT.ngd ec.1)
      · have hf1 := hT.ff ec.1 hf
        subst hf1
        have es1 : m.step C who A = (false, ⟨{ m.a with sa := (m.t.step C who A).2.1.sa, sc := (m.t.step C who A).2.1.sc, got := true, pc := 2 }, (m.t.step C who A).2.1⟩, (m.t.step C who A).2.2) := by
          unfold Mv.step; rw [if_neg (by omega), if_pos p, if_neg (by rw [d]; decide), if_pos o1]
        rw [es1]
        exact ⟨tm _, .inl ⟨rfl, V, st, loc, ⟨h.con, hwb, hcb, hib, hnb, hvb, sl', hd', .inl ⟨hloc, cl', cn', .inr ⟨rfl, ⟨o3, o2⟩, o4, .inl ⟨g1, rfl, g4, g5, g3, by omega⟩⟩⟩⟩, .inl ⟨rfl, rfl⟩, fun q => ⟨q.n, by show (2 : Int) ≠ 11; decide, fun x => (by cases x), fun x => by have x' : (4 : Int) ≤ 2 := x; omega⟩⟩⟩
      · have := o4 (c + 1) (by omega) ec.2
        rw [hT.nx] at this
        exact absurd rfl this
  · -- the copy's head
    have es1 : m.step C who A = (false, { m with a := { m.a with pc := 3 } }, (A.by who).store m.a.sa (m.a.hd 1)) := by
      unfold Mv.step; rw [if_neg (by omega), if_neg (by omega), if_pos p]
    have ehd : m.a.hd 1 = putHead 1 z 0 1 false := by unfold Mo.hd; rw [c3, c4, c5, c6]
    rw [es1, ehd, g2]
    refine ⟨ts _ _ _ (by omega) (by omega) (putHead_in _ _ _ _ _) (.inr (.inr ⟨g1, by rw [g2]; exact Int.le_refl _, by rw [g2]; omega⟩)), .inl ⟨rfl, V, st, loc, ⟨h.con, hwb, hcb, hib, hnb, hvb, ?_, ?_, .inl ⟨hloc, ?_, ?_, .inr ⟨g1, ⟨g2, g3⟩, ?_, .inr ⟨?_, .inl ⟨g5, rfl, g6, g7, by show m.a.nn ≤ 2; omega, by omega⟩⟩⟩⟩⟩, .inl ⟨rfl, rfl⟩, fun q => ⟨q.n, by show (3 : Int) ≠ 11; decide, fun x => (by cases x), fun x => by have x' : (4 : Int) ≤ 3 := x; omega⟩⟩⟩
    · rw [sw, upd_ne _ _ (by omega)]; exact hsl
    · rw [sw, upd_ne _ _ (by omega)]; exact hda
    · rw [sw]; exact hcl.upd (by omega)
    · rw [sw]; exact fun x => (hcn x).upd (by omega) (by omega)
    · rw [sw]; exact e.cw g4 (.inr (.inl (by omega))) ec.1
    · rw [sw, upd_same]
  · -- marking
    have eq : A.w (C.slot m.a.hs) = m.a.w := by rw [c4, hsl, hloc, if_neg (by decide), g5, g6]
    have eas : m.a.as 2 m.a.addr 0 = putSlot 2 (C.base c) 1 V := by
      obtain ⟨_, _, t3, t4⟩ := spa 1 V (by decide) hvb
      unfold Mo.as; rw [c1, g6, t3, t4, Int.add_zero]
    have es1 : m.step C who A = (false, { m with a := { m.a with i := 0, pc := 4 } }, (A.by who).store (C.slot 0) (putSlot 2 (C.base c) 1 V)) := by
      unfold Mv.step; rw [if_neg (by omega), if_neg (by omega), if_neg (by omega), if_pos p, if_pos eq, cas_yes (show (A.by who).w _ = _ from eq), eas, c4]
    rw [es1]
    refine ⟨ts _ _ _ (by omega) (by omega) (putSlot_in _ _ _ _) (.inl (by omega)), .inl ⟨rfl, V, 2, loc, ⟨h.con, hwb, hcb, ⟨Int.le_refl 0, by show (0 : Int) ≤ z; omega⟩, hnb, hvb, ?_, ?_, .inl ⟨hloc, ?_, ?_, .inr ⟨g1, ⟨g2, g3⟩, ?_, .inr ⟨?_, .inr (.inr (.inl ⟨g8, V, g6, hvb.1, g7, .inl ⟨rfl, by show (0 : Int) < z; omega⟩, .inl ⟨rfl, rfl, fun x x0 x1 => by have x1' : x < 0 := x1; omega, fun x => by cases x⟩, ?_⟩))⟩⟩⟩⟩, .inl ⟨rfl, rfl⟩,
      fun q => ⟨q.n, by show (4 : Int) ≠ 11; decide, fun x => (by cases x), fun _ _ => rfl⟩⟩⟩
    · rw [sw, upd_same, hloc, if_neg (by decide)]
    · rw [sw, upd_ne _ _ (by omega)]; exact hda
    · rw [sw]; exact (hcl.st (Int.le_refl _) (fun x => by cases x)).upd (by omega)
    · rw [sw]; exact fun x => (hcn x).upd (by omega) (by omega)
    · rw [sw]; exact e.cw g4 (.inl rfl) ec.1
    · rw [sw, upd_ne _ _ (by omega)]; exact hb1
    · show 3 * (z - 0) + 1 + (if (4 : Int) = 5 then _ else if (4 : Int) = 6 then -2 else 0) + (if (2 : Int) = 2 then 4 else 3 * z + 12) ≤ q - 1
      rw [if_neg (by decide), if_neg (by decide), if_pos rfl]; omega
  · -- seeing once more
    obtain ⟨s1, s2, s3, s4⟩ := seen hloc g5
    have n1 : ¬ (slS (A.w (C.slot m.a.hs)) = 4 ∧ slG (A.w (C.slot m.a.hs)) = m.a.hg ∧ slA (A.w (C.slot m.a.hs)) = m.a.addr) := by rw [s1]; omega
    have n2 : ¬ (slS (A.w (C.slot m.a.hs)) ≠ 1 ∨ slG (A.w (C.slot m.a.hs)) ≠ m.a.hg ∨ slA (A.w (C.slot m.a.hs)) ≠ m.a.addr) := by rw [s1, s2, s3, c1, c5]; simp
    have hws := ok.w (C.slot m.a.hs)
    have cn0 : ∀ P : Prop, Cln m V st → P := fun P q => by have := (q.p0 p).1; rw [g1] at this; cases this
    by_cases cv : 4194302 ≤ V
    · have es1 : m.step C who A = (false, { m with a := { m.a with w := A.w (C.slot m.a.hs), out := 3, pc := 11 } }, (A.by who).load (C.slot m.a.hs)) := by
        unfold Mv.step; rw [if_pos p, if_neg n1, if_neg n2, if_pos (by rw [s4]; exact cv), show (!m.a.got) = false by rw [g1]; rfl]
        rw [endm_got (a := { m.a with w := A.w (C.slot m.a.hs) }) g1]
      rw [es1]
      exact ⟨tl _ _ (by rw [c4]; omega) (by rw [c4]; omega), .inl ⟨rfl, V, st, loc, ⟨h.con, hws, hcb, hib, hnb, hvb, hsl, hda, .inl ⟨hloc, hcl, hcn, .inr ⟨g1, ⟨g2, g3⟩, g4, .inr ⟨hb1, .inr (.inr (.inr ⟨g5, rfl, rfl, by omega⟩))⟩⟩⟩⟩, .inl ⟨rfl, rfl⟩, cn0 _⟩⟩
    · have es1 : m.step C who A = (false, { m with a := { m.a with w := A.w (C.slot m.a.hs), pc := 3 } }, (A.by who).load (C.slot m.a.hs)) := by
        unfold Mv.step; rw [if_pos p, if_neg n1, if_neg n2, if_neg (by rw [s4]; exact cv), if_pos g1]
      rw [es1]
      exact ⟨tl _ _ (by rw [c4]; omega) (by rw [c4]; omega), .inl ⟨rfl, V, st, loc, ⟨h.con, hws, hcb, hib, hnb, hvb, hsl, hda, .inl ⟨hloc, hcl, hcn, .inr ⟨g1, ⟨g2, g3⟩, g4, .inr ⟨hb1, .inl ⟨g5, rfl, by show A.w (C.slot m.a.hs) = _; rw [c4, hsl, hloc, if_neg (by decide), g5], by omega, g6, by omega⟩⟩⟩⟩⟩, .inl ⟨rfl, rfl⟩, cn0 _⟩⟩
  · -- the round
    obtain ⟨t1, t2, t3, t4⟩ := spa 1 Vm (by decide) (by omega)
    rw [← g6] at t1 t2 t3 t4
    have hstv : st = 2 ∨ st = 1 := by rcases g10 with q | q; exact .inl q.1; exact .inr q.1
    rcases g9 with ⟨p, hi⟩ | ⟨p, hi⟩ | ⟨p, hi⟩ | ⟨p, hi⟩
    · -- loading
      rw [p, if_neg (by decide), if_neg (by decide)] at g11
      have es1 : m.step C who A = (false, { m with a := { m.a with cell := A.w (C.base c + 1 + m.a.i), pc := if ceF (A.w (C.base c + 1 + m.a.i)) = true ∧ ceN (A.w (C.base c + 1 + m.a.i)) = Vm then 6 else 5 } }, (A.by who).load (C.base c + 1 + m.a.i)) := by
        unfold Mv.step; rw [if_neg (by omega), if_neg (by omega), if_neg (by omega), if_neg (by omega), if_pos p, c1, t4]
      rw [es1]
      refine ⟨tl _ _ (by omega) (by omega), .inl ⟨rfl, V, st, loc, ⟨h.con, hwb, ok.w _, hib, hnb, hvb, hsl, hda, .inl ⟨hloc, hcl, hcn, .inr ⟨g1, ⟨g2, g3⟩, g4, .inr ⟨hb1, .inr (.inr (.inl ⟨g5, Vm, g6, g7, g8, ?_, ?_, ?_⟩))⟩⟩⟩⟩, .inl ⟨rfl, rfl⟩, fun q => ⟨q.n, ?_, fun x => ?_, fun _ _ => q.r (by omega) (by omega)⟩⟩⟩
      · dsimp only; split
        · exact .inr (.inr (.inl ⟨rfl, hi⟩))
        · exact .inr (.inl ⟨rfl, hi⟩)
      · rcases g10 with ⟨q1, q2, q3, q4⟩ | q
        · refine .inl ⟨q1, q2, q3, fun x => ?_⟩
          dsimp only at x
          split at x
          · rename_i hq
            exact ⟨by rw [q2]; exact hq, (hcl m.a.i hib.1 hi).1⟩
          · cases x
        · exact .inr q
      · dsimp only
        split
        · rw [if_neg (by decide), if_pos rfl]; omega
        · rw [if_pos (show (5 : Int) = 5 from rfl), if_pos (show ((A.by who).load (C.base c + 1 + m.a.i)).w (C.base c + 1 + m.a.i) = A.w (C.base c + 1 + m.a.i) from rfl)]; omega
      · dsimp only; split <;> decide
      · dsimp only at x; split at x <;> cases x
    · -- freezing
      rw [p, if_pos rfl] at g11
      by_cases ceq : A.w (C.base c + 1 + m.a.i) = m.a.cell
      · rw [if_pos ceq] at g11
        have es1 : m.step C who A = (false, { m with a := { m.a with pc := 6 } }, (A.by who).store (C.base c + 1 + m.a.i) (putCell (ceV m.a.cell) true Vm)) := by
          unfold Mv.step; rw [if_neg (by omega), if_neg (by omega), if_neg (by omega), if_neg (by omega), if_neg (by omega), if_pos p, c1, t4, if_pos ceq, cas_yes (show (A.by who).w _ = _ from ceq)]
        obtain ⟨u1, u2, u3⟩ := ce_put (v := ceV m.a.cell) (f := true) (n := Vm) (ceV_bd _) (by omega)
        rw [if_pos rfl] at u3
        have hci := hcl m.a.i hib.1 hi
        rw [ceq] at hci
        rw [es1]
        refine ⟨ts _ _ _ (by omega) (by omega) (putCell_in _ _ _) (.inr (.inl (by omega))), .inl ⟨rfl, V, st, loc, ⟨h.con, hwb, hcb, hib, hnb, hvb, ?_, ?_, .inl ⟨hloc, ?_, ?_, .inr ⟨g1, ⟨g2, g3⟩, ?_, .inr ⟨?_, .inr (.inr (.inl ⟨g5, Vm, g6, g7, g8, .inr (.inr (.inl ⟨rfl, hi⟩)), ?_, ?_⟩))⟩⟩⟩⟩, .inl ⟨rfl, rfl⟩, fun q => ⟨q.n, by show (6 : Int) ≠ 11; decide, fun x => (by cases x), fun _ _ => q.r (by omega) (by omega)⟩⟩⟩
        · rw [sw, upd_ne _ _ (by omega)]; exact hsl
        · rw [sw, upd_ne _ _ (by omega)]; exact hda
        · rw [sw]
          intro x x0 x1
          by_cases ex : x = m.a.i
          · rw [ex, upd_same]
            refine ⟨by rw [u1]; exact hci.1, fun _ => ?_⟩
            rw [u3]
            rcases g10 with ⟨q1, q2, _⟩ | ⟨q1, q2⟩
            · exact ⟨by omega, fun q => by omega⟩
            · exact ⟨by omega, fun _ => q2⟩
          · rw [upd_ne _ _ (by omega)]; exact hcl x x0 x1
        · rw [sw]; exact fun x => (hcn x).upd (by omega) (by omega)
        · rw [sw]; exact e.cw g4 (.inr (.inl (by omega))) ec.1
        · rw [sw, upd_ne _ _ (by omega)]; exact hb1
        · rcases g10 with ⟨q1, q2, q3, q4⟩ | q
          · refine .inl ⟨q1, q2, fun x x0 x1 => ?_, fun _ => ?_⟩
            · have x1' : x < m.a.i := x1
              rw [sw, upd_ne _ _ (by omega), upd_ne _ _ (by omega)]; exact q3 x x0 x1
            · dsimp only
              rw [sw, upd_same]
              exact ⟨⟨u2, by rw [u3, q2]⟩, hci.1⟩
          · exact .inr q
        · dsimp only
          rw [if_neg (by decide), if_pos rfl]; omega
      · rw [if_neg ceq] at g11
        have es1 : m.step C who A = (false, { m with a := { m.a with pc := 4 } }, (A.by who).load (C.base c + 1 + m.a.i)) := by
          unfold Mv.step; rw [if_neg (by omega), if_neg (by omega), if_neg (by omega), if_neg (by omega), if_neg (by omega), if_pos p, c1, t4, if_neg ceq, cas_no (show (A.by who).w _ ≠ _ from ceq)]
        rw [es1]
        refine ⟨tl _ _ (by omega) (by omega), .inl ⟨rfl, V, st, loc, ⟨h.con, hwb, hcb, hib, hnb, hvb, hsl, hda, .inl ⟨hloc, hcl, hcn, .inr ⟨g1, ⟨g2, g3⟩, g4, .inr ⟨hb1, .inr (.inr (.inl ⟨g5, Vm, g6, g7, g8, .inl ⟨rfl, hi⟩, ?_, ?_⟩))⟩⟩⟩⟩, .inl ⟨rfl, rfl⟩, fun q => ⟨q.n, by show (4 : Int) ≠ 11; decide, fun x => (by cases x), fun _ _ => q.r (by omega) (by omega)⟩⟩⟩
        · rcases g10 with ⟨q1, q2, q3, q4⟩ | q
          · exact .inl ⟨q1, q2, q3, fun x => by cases x⟩
          · exact .inr q
        · dsimp only
          rw [if_neg (by decide), if_neg (by decide)]; omega
    · -- copying
      rw [p, if_neg (by decide), if_pos rfl] at g11
      have es1 : m.step C who A = (false, { m with a := { m.a with i := m.a.i + 1, pc := if z ≤ m.a.i + 1 then 7 else 4 } }, (A.by who).store (C.base (c + 1) + 1 + m.a.i) (putCell (ceV m.a.cell) false 0)) := by
        unfold Mv.step; rw [if_neg (by omega), if_neg (by omega), if_neg (by omega), if_neg (by omega), if_neg (by omega), if_neg (by omega), if_pos p, c3, g2]
      have hcv := ceV_bd m.a.cell
      rw [es1, putCell_lay hcv]
      refine ⟨ts _ _ _ (by omega) (by omega) (by omega) (.inr (.inr ⟨g1, by rw [g2]; omega, by rw [g2]; omega⟩)), .inl ⟨rfl, V, st, loc, ⟨h.con, hwb, hcb, ⟨by show 0 ≤ m.a.i + 1; omega, by show m.a.i + 1 ≤ z; omega⟩, hnb, hvb, ?_, ?_, .inl ⟨hloc, ?_, ?_, .inr ⟨g1, ⟨g2, g3⟩, ?_, .inr ⟨?_, .inr (.inr (.inl ⟨g5, Vm, g6, g7, g8, ?_, ?_, ?_⟩))⟩⟩⟩⟩, .inl ⟨rfl, rfl⟩, fun q => ⟨q.n, ?_, fun x => ?_, fun _ _ => q.r (by omega) (by omega)⟩⟩⟩
      · rw [sw, upd_ne _ _ (by omega)]; exact hsl
      · rw [sw, upd_ne _ _ (by omega)]; exact hda
      · rw [sw]; exact hcl.upd (by omega)
      · rw [sw]; exact fun x => (hcn x).upd (by omega) (by omega)
      · rw [sw]; exact e.cw g4 (.inr (.inl (by omega))) ec.1
      · rw [sw, upd_ne _ _ (by omega)]; exact hb1
      · dsimp only; split
        · exact .inr (.inr (.inr ⟨rfl, by omega⟩))
        · exact .inl ⟨rfl, by omega⟩
      · rcases g10 with ⟨q1, q2, q3, q4⟩ | q
        · obtain ⟨q5, q6⟩ := q4 p
          refine .inl ⟨q1, q2, fun x x0 x1 => ?_, fun x => ?_⟩
          · have x1' : x < m.a.i + 1 := x1
            rw [sw, upd_ne _ _ (by omega)]
            by_cases ex : x = m.a.i
            · rw [ex, upd_same]; exact ⟨q5, q6⟩
            · rw [upd_ne _ _ (by omega)]; exact q3 x x0 (by omega)
          · dsimp only at x; split at x <;> cases x
        · exact .inr q
      · dsimp only
        split
        · rw [if_neg (by decide), if_neg (by decide)]; omega
        · rw [if_neg (by decide), if_neg (by decide)]; omega
      · dsimp only; split <;> decide
      · dsimp only at x; split at x <;> cases x
    · -- showing
      rw [p, if_neg (by decide), if_neg (by decide)] at g11
      have eas : m.a.as 2 m.a.addr 0 = putSlot 2 (C.base c) 1 Vm := by unfold Mo.as; rw [c1, t3, t4, Int.add_zero]
      have eas1 : m.a.as 1 m.a.sa 1 = putSlot 1 (C.base (c + 1)) 1 (Vm + 1) := by unfold Mo.as; rw [g2, t3, t4]
      rcases g10 with ⟨q1, q2, q3, q4⟩ | ⟨q1, q2⟩
      · have eq : A.w (C.slot m.a.hs) = m.a.as 2 m.a.addr 0 := by rw [eas, c4, hsl, hloc, if_neg (by decide), q1, q2]
        have es1 : m.step C who A = (false, { m with a := { m.a with pc := 8 } }, (A.by who).store (C.slot 0) (putSlot 1 (C.base (c + 1)) 1 (Vm + 1))) := by
          unfold Mv.step; rw [if_neg (by omega), if_neg (by omega), if_neg (by omega), if_neg (by omega), if_neg (by omega), if_neg (by omega), if_neg (by omega), if_pos p, if_pos eq, cas_yes (show (A.by who).w _ = _ from eq), eas1, c4]
        rw [if_pos q1] at g11
        rw [es1]
        refine ⟨ts _ _ _ (by omega) (by omega) (putSlot_in _ _ _ _) (.inl (by omega)), .inl ⟨rfl, V + 1, 1, true, ⟨h.con, hwb, hcb, hib, hnb, by omega, ?_, ?_, .inr ⟨rfl, rfl, by omega, g1, ⟨g2, g3⟩, ?_, fun x x0 x1 => ?_, .inl ⟨rfl, ?_, ?_, by omega⟩⟩⟩, .inr ⟨hloc, rfl, rfl⟩, fun q => ⟨q.n, by show (8 : Int) ≠ 11; decide, fun x => (by cases x), fun _ x => by have x' : (8 : Int) ≤ 7 := x; omega⟩⟩⟩
        · rw [sw, upd_same, if_pos rfl, q2]
        · rw [sw, upd_ne _ _ (by omega)]; exact hda
        · rw [sw]; exact e.cw g4 (.inl rfl) ec.1
        · rw [sw, upd_ne _ _ (by omega), upd_ne _ _ (by omega), show V + 1 - 1 = V by omega]
          obtain ⟨r1, r2⟩ := q3 x x0 (by omega)
          have := (hcl x x0 x1).1
          have := ceV_bd (A.w (C.base c + 1 + x))
          exact ⟨r1, r2, by omega, by omega⟩
        · rw [sw, upd_ne _ _ (by omega)]; exact hb1
        · rw [sw]; exact fun x => (hcn x).upd (by omega) (by omega)
      · have ne : A.w (C.slot m.a.hs) ≠ m.a.as 2 m.a.addr 0 := by
          rw [eas, c4, hsl, hloc, if_neg (by decide), q1]
          intro q
          have r1 := (spa 1 V (by decide) hvb).1
          rw [q, (spa 2 Vm (by decide) (by omega)).1] at r1
          omega
        rw [if_neg (by omega)] at g11
        have cn0 : ∀ P : Prop, Cln m V st → P := fun P q => by have := q.r (by omega) (by omega); omega
        by_cases cR : C.R ≤ m.a.nn + 1
        · have es1 : m.step C who A = (false, { m with a := { m.a with nn := m.a.nn + 1, out := 3, pc := 11 } }, (A.by who).load (C.slot 0)) := by
            unfold Mv.step; rw [if_neg (by omega), if_neg (by omega), if_neg (by omega), if_neg (by omega), if_neg (by omega), if_neg (by omega), if_neg (by omega), if_pos p, if_neg ne, if_pos cR, cas_no (show (A.by who).w _ ≠ _ from ne), show (!m.a.got) = false by rw [g1]; rfl, c4]
            rw [endm_got (a := { m.a with pc := 0, nn := m.a.nn + 1 }) g1]
          rw [es1]
          exact ⟨tl _ _ (by omega) (by omega), .inl ⟨rfl, V, st, loc, ⟨h.con, hwb, hcb, hib, by dsimp only; omega, hvb, hsl, hda, .inl ⟨hloc, hcl, hcn, .inr ⟨g1, ⟨g2, g3⟩, g4, .inr ⟨hb1, .inr (.inr (.inr ⟨q1, rfl, rfl, by omega⟩))⟩⟩⟩⟩, .inl ⟨rfl, rfl⟩, cn0 _⟩⟩
        · have es1 : m.step C who A = (false, { m with a := { m.a with nn := m.a.nn + 1, pc := 0 } }, (A.by who).load (C.slot 0)) := by
            unfold Mv.step; rw [if_neg (by omega), if_neg (by omega), if_neg (by omega), if_neg (by omega), if_neg (by omega), if_neg (by omega), if_neg (by omega), if_pos p, if_neg ne, if_neg cR, cas_no (show (A.by who).w _ ≠ _ from ne), c4]
          rw [es1]
          exact ⟨tl _ _ (by omega) (by omega), .inl ⟨rfl, V, st, loc, ⟨h.con, hwb, hcb, hib, by dsimp only; omega, hvb, hsl, hda, .inl ⟨hloc, hcl, hcn, .inr ⟨g1, ⟨g2, g3⟩, g4, .inr ⟨hb1, .inr (.inl ⟨q1, rfl, by dsimp only; omega, by omega⟩)⟩⟩⟩⟩, .inl ⟨rfl, rfl⟩, cn0 _⟩⟩
  · -- killing the copy
    have es1 : m.step C who A = (true, m, (A.by who).store m.a.sa (m.a.hd 3)) := by
      unfold Mv.step; rw [if_neg (by omega), if_neg (by omega), if_neg (by omega), if_neg (by omega), if_neg (by omega), if_neg (by omega), if_neg (by omega), if_neg (by omega), if_neg (by omega), if_neg (by omega), if_neg (by omega)]
    rw [es1, g2]
    refine ⟨ts _ _ _ (by omega) (by omega) (putHead_in _ _ _ _ _) (.inr (.inr ⟨g1, by rw [g2]; exact Int.le_refl _, by rw [g2]; omega⟩)), .inr ⟨rfl, ⟨c1, hvb, ?_, ?_, .inr ⟨hloc, g6, ?_⟩⟩, fun q => absurd p q.p⟩⟩
    · rw [sw, upd_ne _ _ (by omega)]; have qq := hsl; rw [g5] at qq; exact qq
    · rw [sw, upd_ne _ _ (by omega)]; exact hda
    · rw [sw]; have qq := hcl; rw [g5] at qq; exact qq.upd (by omega)
  · -- the copy is ready
    have es1 : m.step C who A = (false, { m with a := { m.a with pc := 9 } }, (A.by who).store (C.base (c + 1)) (putHead 2 z 0 1 false)) := by
      unfold Mv.step; rw [if_neg (by omega), if_neg (by omega), if_neg (by omega), if_neg (by omega), if_neg (by omega), if_neg (by omega), if_neg (by omega), if_neg (by omega), if_pos p, g4]
      unfold Mo.hd; rw [c3, c4, c5, c6]
    rw [es1]
    refine ⟨ts _ _ _ (by omega) (by omega) (putHead_in _ _ _ _ _) (.inr (.inr ⟨g3, by rw [g4]; exact Int.le_refl _, by rw [g4]; omega⟩)), .inl ⟨rfl, V, st, loc, ⟨h.con, hwb, hcb, hib, hnb, hvb, ?_, ?_, .inr ⟨hloc, g1, g2, g3, ⟨g4, g5⟩, ?_, fun x x0 x1 => ?_, .inr ⟨?_, .inl ⟨rfl, ?_, by omega⟩⟩⟩⟩, .inl ⟨rfl, rfl⟩, fun q => ⟨q.n, by show (9 : Int) ≠ 11; decide, fun x => (by cases x), fun _ x => by have x' : (9 : Int) ≤ 7 := x; omega⟩⟩⟩
    · rw [sw, upd_ne _ _ (by omega)]; exact hsl
    · rw [sw, upd_ne _ _ (by omega)]; exact hda
    · rw [sw]; exact e.cw g6 (.inr (.inl (by omega))) ec.1
    · rw [sw, upd_ne _ _ (by omega), upd_ne _ _ (by omega)]; exact g7 x x0 x1
    · rw [sw, upd_same]
    · rw [sw]; exact fun x => (g9 x).upd (by omega) (by omega)
  · -- adding
    have hw1 : ∃ v, (0 ≤ v ∧ v < 18446744073709551616) ∧ IntKind.u64.wrap (A.w (C.chunk (c + 1) + 1) + IntKind.u64.wrap (roomOf (classOf z))) = v ∧ (P → v = roomOf (classOf z)) :=
      ⟨_, by rw [IntKind.wrap_u64]; omega, rfl, fun x => by rw [(g9 x).2, IntKind.wrap_u64, IntKind.wrap_u64]; omega⟩
    obtain ⟨v, hv0, hw1, hv⟩ := hw1
    have es1 : m.step C who A = (false, { m with a := { m.a with pc := 10 } }, (A.by who).store (C.chunk (c + 1) + 1) v) := by
      unfold Mv.step; rw [if_neg (by omega), if_neg (by omega), if_neg (by omega), if_neg (by omega), if_neg (by omega), if_neg (by omega), if_neg (by omega), if_neg (by omega), if_neg (by omega), if_pos p, g5, c3, add_eq, by_w, hw1]
    rw [es1]
    refine ⟨ts _ _ _ (by omega) (by omega) hv0 (.inl (by omega)), .inl ⟨rfl, V, st, loc, ⟨h.con, hwb, hcb, hib, hnb, hvb, ?_, ?_, .inr ⟨hloc, g1, g2, g3, ⟨g4, g5⟩, ?_, fun x x0 x1 => ?_, .inr ⟨?_, .inr ⟨rfl, ?_, by omega⟩⟩⟩⟩, .inl ⟨rfl, rfl⟩, fun q => ⟨q.n, by show (10 : Int) ≠ 11; decide, fun x => (by cases x), fun _ x => by have x' : (10 : Int) ≤ 7 := x; omega⟩⟩⟩
    · rw [sw, upd_ne _ _ (by omega)]; exact hsl
    · rw [sw, upd_ne _ _ (by omega)]; exact hda
    · rw [sw]; exact e.cw g6 (.inr (.inr (.inr rfl))) ec.1
    · rw [sw, upd_ne _ _ (by omega), upd_ne _ _ (by omega)]; exact g7 x x0 x1
    · rw [sw, upd_ne _ _ (by omega)]; exact g8
    · rw [sw]; exact fun x => ⟨by rw [upd_ne _ _ (by omega)]; exact (g9 x).1, by rw [upd_same]; exact hv x⟩
  · -- taking
    have hw1 : ∃ v, (0 ≤ v ∧ v < 18446744073709551616) ∧ IntKind.u64.wrap (A.w (C.chunk c + 1) + IntKind.u64.wrap (-roomOf (classOf z))) = v ∧ (P → v = 0) :=
      ⟨_, by rw [IntKind.wrap_u64]; omega, rfl, fun x => by rw [(g9 x).1, IntKind.wrap_u64, IntKind.wrap_u64]; omega⟩
    obtain ⟨v, hv0, hw1, hv⟩ := hw1
    have es1 : m.step C who A = (true, { m with a := { m.a with out := 1 } }, (A.by who).store (C.chunk c + 1) v) := by
      unfold Mv.step; rw [if_neg (by omega), if_neg (by omega), if_neg (by omega), if_neg (by omega), if_neg (by omega), if_neg (by omega), if_neg (by omega), if_neg (by omega), if_neg (by omega), if_neg (by omega), if_pos p, c1, e.of, c3, add_eq, by_w, hw1]
    rw [es1]
    refine ⟨ts _ _ _ (by omega) (by omega) hv0 (.inl (by omega)), .inr ⟨rfl, ⟨c1, hvb, ?_, ?_, .inl ⟨hloc, rfl, g2, g3, ⟨g4, g5⟩, ?_, fun x x0 x1 => ?_, ?_, ?_⟩⟩, fun _ => rfl⟩⟩
    · rw [sw, upd_ne _ _ (by omega)]; have qq := hsl; rw [g1] at qq; exact qq
    · rw [sw, upd_ne _ _ (by omega)]; exact hda
    · rw [sw]; exact e.cw g6 (.inr (.inr (.inl rfl))) ec.1
    · rw [sw, upd_ne _ _ (by omega), upd_ne _ _ (by omega)]; exact g7 x x0 x1
    · rw [sw, upd_ne _ _ (by omega)]; exact g8
    · rw [sw]; exact fun x => ⟨by rw [upd_same]; exact hv x, by rw [upd_ne _ _ (by omega)]; exact (g9 x).2⟩
end Go.Fl
namespace Go.Fl
open Go
set_option linter.unusedVariables false
set_option linter.unusedSimpArgs false
variable {N : Nm} {A B : Ar} {σ : Mem} {K : Value → Mem → Prop} {C : Cf} {who : Int}
structure Lg (C : Cf) (n : Int) (own : Bool) (kd ix v old : Int) (m : Ak) : Prop where
 f : m.a.kd = kd ∧ m.a.n = n ∧ m.a.ix = ix ∧ m.a.v = v ∧ m.a.old = old ∧ m.a.own = own
 hs : 0 ≤ m.a.hs ∧ m.a.hs < C.S
 w : 0 ≤ m.a.w ∧ m.a.w < 18446744073709551616
 cell : 0 ≤ m.a.cell ∧ m.a.cell < 18446744073709551616
 at' : m.a.pc = 0 ∨ (m.a.hs = hdSl n ∧ m.a.hg = hdGe n ∧ lives m.a.w (hdGe n) ∧ slS m.a.w ≠ 4) ∧ (m.a.pc = 1 ∨ m.a.pc = 2 ∨ m.a.pc = 3 ∧ ¬ Lk kd old m.a.cell ∧ slS m.a.w = 2 ∧ ceF m.a.cell = true ∧ ceN m.a.cell = slV m.a.w ∨
  m.a.pc = 5 ∧ ¬ Lk kd old m.a.cell ∧ (ceF m.a.cell = false ∨ ceN m.a.cell < slV m.a.w) ∨ m.a.pc = 6 ∧ Lk kd old m.a.cell)
theorem Lg.new (hC : C.ok) {n kd ix v old : Int} {own : Bool} : Lg C n own kd ix v old (Ak.new kd n ix v old own) := by
 have hS := hC.S
 exact ⟨⟨rfl, rfl, rfl, rfl, rfl, rfl⟩, ⟨Int.le_refl 0, by show (0 : Int) < C.S; omega⟩, ⟨Int.le_refl 0, (by decide : (0 : Int) < 18446744073709551616)⟩, ⟨Int.le_refl 0, (by decide : (0 : Int) < 18446744073709551616)⟩, .inl rfl⟩
structure LgE (C : Cf) (n : Int) (own : Bool) (z ix : Int) (A : Ar) (m : Ak) : Prop where
 nb : 0 ≤ n ∧ n < 18446744073709551616
 ok : hdOk n = true
 s : hdSl n < C.S
 dr : lives (A.w (C.slot (hdSl n))) (hdGe n) → slS (A.w (C.slot (hdSl n))) ≠ 4
 ix : 0 ≤ ix ∧ ix < z
 hd : m.a.pc = 1 → hdO (A.w (slA m.a.w)) = own ∧ hdS (A.w (slA m.a.w)) = z
 bd : m.a.pc ≠ 0 → C.base 0 ≤ slA m.a.w ∧ slA m.a.w + z < C.len
 n : C.len ≤ A.n
 n2 : (A.n : Int) ≤ 200000000
inductive LgR (C : Cf) (who n : Int) (own : Bool) (kd ix v old : Int) (A : Ar) (m : Ak) : Bool → Ak → Ar → Prop
 | see {m' : Ak} : m.a.pc = 0 → lives (A.w (C.slot (hdSl n))) (hdGe n) → Lg C n own kd ix v old m' → m'.a.pc = 1 → m'.a.w = A.w (C.slot (hdSl n)) → m'.a.seen = A.s + 1 → LgR C who n own kd ix v old A m false m' ((A.by who).load (C.slot (hdSl n)))
 | gone {m' : Ak} : m.a.pc = 0 ∨ m.a.pc = 6 → ¬ lives (A.w (C.slot (hdSl n))) (hdGe n) → m'.a.oE = 3 ∧ m'.a.oH = 0 ∧ m'.a.oV = 0 ∧ m'.a.oS = A.s + 1 → LgR C who n own kd ix v old A m true m' ((A.by who).load (C.slot (hdSl n)))
 | head {m' : Ak} : m.a.pc = 1 → Lg C n own kd ix v old m' → m'.a.pc = 2 → m'.a.w = m.a.w → LgR C who n own kd ix v old A m false m' ((A.by who).load (slA m.a.w))
 | load {m' : Ak} : m.a.pc = 2 → Lg C n own kd ix v old m' → m'.a.w = m.a.w → m'.a.cell = A.w (slA m.a.w + 1 + ix) → m'.a.rd = A.s + 1 → (m'.a.pc = 6 ∧ Lk kd old m'.a.cell ∨ ¬ Lk kd old m'.a.cell ∧ (m'.a.pc = 5 ∧ (ceF m'.a.cell = false ∨ ceN m'.a.cell < slV m.a.w) ∨
   ¬ (ceF m'.a.cell = false ∨ ceN m'.a.cell < slV m.a.w) ∧ (m'.a.pc = 3 ∧ ceN m'.a.cell = slV m.a.w ∧ slS m.a.w = 2 ∨ m'.a.pc = 0 ∧ ¬ (ceN m'.a.cell = slV m.a.w ∧ slS m.a.w = 2)))) → LgR C who n own kd ix v old A m false m' ((A.by who).load (slA m.a.w + 1 + ix))
 | stop {m' : Ak} : m.a.pc = 3 → slS m.a.w = 2 → Lg C n own kd ix v old m' → m'.a.pc = 0 → LgR C who n own kd ix v old A m false m' ((A.by who).cas (C.slot (hdSl n)) m.a.w (putSlot 1 (slA m.a.w) (slG m.a.w) (slV m.a.w + 1)))
 | lay {m' : Ak} : m.a.pc = 5 → ¬ Lk kd old m.a.cell → (ceF m.a.cell = false ∨ ceN m.a.cell < slV m.a.w) → A.w (slA m.a.w + 1 + ix) = m.a.cell → m'.a.oE = 0 ∧ m'.a.oH = 0 ∧ m'.a.oV = ceV m.a.cell ∧ m'.a.oS = A.s + 1 → LgR C who n own kd ix v old A m true m' ((A.by who).store (slA m.a.w + 1 + ix) (putCell v false 0))
 | again {m' : Ak} : m.a.pc = 5 → A.w (slA m.a.w + 1 + ix) ≠ m.a.cell → Lg C n own kd ix v old m' → m'.a.pc = 0 → LgR C who n own kd ix v old A m false m' ((A.by who).load (slA m.a.w + 1 + ix))
 | look {m' : Ak} : m.a.pc = 6 → Lk kd old m.a.cell → lives (A.w (C.slot (hdSl n))) (hdGe n) → slA (A.w (C.slot (hdSl n))) = slA m.a.w → m'.a.oE = (if kd = 3 then 8 else 0) ∧ m'.a.oH = 0 ∧ m'.a.oV = ceV m.a.cell ∧ m'.a.oS = m.a.rd → LgR C who n own kd ix v old A m true m' ((A.by who).load (C.slot (hdSl n)))
 | else' {m' : Ak} : m.a.pc = 6 → lives (A.w (C.slot (hdSl n))) (hdGe n) → slA (A.w (C.slot (hdSl n))) ≠ slA m.a.w → Lg C n own kd ix v old m' → m'.a.pc = 0 → LgR C who n own kd ix v old A m false m' ((A.by who).load (C.slot (hdSl n)))
theorem Lg.step (hC : C.ok) {bb n z kd ix v old : Int} {own : Bool} {m : Ak} (h : Lg C n own kd ix v old m) (ho : LgE C n own z ix A m) (ok : A.ok bb) (hb : bb < 4611686018427387904) :
  m.fit C A ∧ LgR C who n own kd ix v old A m (m.step C who A).1 (m.step C who A).2.1 (m.step C who A).2.2 := by
 have hT := hC.T
 have hS := hC.S
 have hCC := hC.C
 have hll := len_bd hC
 have hsl := hdSl_bd ho.nb.1
 have hos := ho.s
 have hi := ho.ix
 have hn := ho.n
 have hb0 : C.base 0 = 6 + C.T + 2 * C.S + 3 * C.C := by unfold Cf.base; omega
 obtain ⟨⟨f1, f2, f3, f4, f5, f6⟩, g1, g2, g3, h⟩ := h
 have hat : m.a.at' = slA m.a.w + 1 + ix := by unfold Ac.at'; rw [f3]
 have hpc : 0 ≤ m.a.pc ∧ m.a.pc ≤ 6 ∧ m.a.pc ≠ 4 := by rcases h with h | ⟨_, h | h | ⟨h, _⟩ | ⟨h, _⟩ | ⟨h, _⟩⟩ <;> omega
 have hfit : m.fit C A := by
  refine ⟨⟨⟨hpc.1, hpc.2.1⟩, by rw [f2]; exact ho.nb, g1, g2, g3, fun e => ?_, fun e => ?_, ho.n2⟩, fun e => absurd e hpc.2.2⟩
  ·have := ho.bd (by omega); omega
  ·have := ho.bd (by omega); rw [hat]; omega
 refine ⟨hfit, ?_⟩
 have hs1 := ok.s1 (by omega)
 have ls : ∀ x, ((A.by who).load x).s = A.s + 1 := fun x => (aft_load (who := who) (A := A) (a := x) ok (by omega)).s
 have e0 : m.step C who A = ((m.a.step C who A).1, ⟨(m.a.step C who A).2.1, if m.a.pc = 2 then Hl.new m.a.hs m.a.w m.a.size else m.h⟩, (m.a.step C who A).2.2) := by
  unfold Ak.step; rw [if_neg hpc.2.2]
 rw [e0]
 rcases h with hp | ⟨⟨q1, q2, q3, q4⟩, h⟩
 ·by_cases hl : lives (A.w (C.slot (hdSl n))) (hdGe n)
  ·have e : m.a.step C who A = (false, { m.a with hs := hdSl m.a.n, hg := hdGe m.a.n, w := A.w (C.slot (hdSl m.a.n)), seen := ((A.by who).load (C.slot (hdSl m.a.n))).s, pc := 1 }, (A.by who).load (C.slot (hdSl m.a.n))) := by
    unfold Ac.step; rw [if_pos hp, if_neg (by rw [f2]; rintro (q | q); rw [ho.ok] at q; cases q; omega), if_pos (by rw [f2]; exact hl)]
   rw [e, f2]
   exact .see hp hl ⟨⟨f1, by first | rfl | exact f2, f3, f4, f5, f6⟩, ⟨hsl.1.1, hos⟩, ok.w (C.slot (hdSl n)), g3, .inr ⟨⟨rfl, rfl, hl, ho.dr hl⟩, .inl rfl⟩⟩ rfl rfl (ls (C.slot (hdSl n)))
  ·have e : m.a.step C who A = (true, ({ m.a with hs := hdSl m.a.n, hg := hdGe m.a.n, w := A.w (C.slot (hdSl m.a.n)), seen := ((A.by who).load (C.slot (hdSl m.a.n))).s, pc := 1 } : Ac).fin 3 0 ((A.by who).load (C.slot (hdSl m.a.n))).s, (A.by who).load (C.slot (hdSl m.a.n))) := by
    unfold Ac.step; rw [if_pos hp, if_neg (by rw [f2]; rintro (q | q); rw [ho.ok] at q; cases q; omega), if_neg (by rw [f2]; exact hl)]
   rw [e, f2]
   exact .gone (.inl hp) hl ⟨rfl, rfl, rfl, ls (C.slot (hdSl n))⟩
 rcases h with hp | h
 ·obtain ⟨h1, h2⟩ := ho.hd hp
  have own' : ¬ hdO (A.w (slA m.a.w)) ≠ m.a.own := by rw [f6, h1]; simp
  have c : ¬ (m.a.ix < 0 ∨ hdS (A.w (slA m.a.w)) ≤ m.a.ix) := by rw [h2, f3]; omega
  have e : m.a.step C who A = (false, { m.a with size := hdS (A.w (slA m.a.w)), pc := 2 }, (A.by who).load (slA m.a.w)) := by
   unfold Ac.step; rw [if_neg (by omega), if_pos hp, if_neg own', if_neg c]
  rw [e]
  exact .head hp ⟨⟨f1, f2, f3, f4, f5, f6⟩, g1, g2, g3, .inr ⟨⟨q1, q2, q3, q4⟩, .inr (.inl rfl)⟩⟩ rfl rfl
 rcases h with hp | h
 ·have e : m.a.step C who A = (false, { m.a with cell := A.w m.a.at', rd := ((A.by who).load m.a.at').s, pc := ({ m.a with cell := A.w m.a.at' } : Ac).nxt }, (A.by who).load m.a.at') := by
   unfold Ac.step; rw [if_neg (by omega), if_neg (by omega), if_pos hp]
  have nx : ∀ c, ({ m.a with cell := c } : Ac).nxt = if Lk kd old c then 6 else if ceF c = false ∨ ceN c < slV m.a.w then 5 else if ceN c = slV m.a.w ∧ slS m.a.w = 2 then 3 else 0 := by
   intro c
   unfold Ac.nxt Lk
   dsimp only
   rw [if_neg q4, f1, f5]
  rw [e, nx, hat]
  generalize hcc : A.w (slA m.a.w + 1 + ix) = c
  have hcb : 0 ≤ c ∧ c < 18446744073709551616 := by rw [← hcc]; exact ok.w _
  by_cases c1 : Lk kd old c
  ·rw [if_pos c1]
   exact .load hp ⟨⟨f1, f2, f3, f4, f5, f6⟩, g1, g2, hcb, .inr ⟨⟨q1, q2, q3, q4⟩, .inr (.inr (.inr (.inr ⟨rfl, c1⟩)))⟩⟩ rfl hcc.symm (ls (slA m.a.w + 1 + ix)) (.inl ⟨rfl, c1⟩)
  rw [if_neg c1]
  by_cases c2 : ceF c = false ∨ ceN c < slV m.a.w
  ·rw [if_pos c2]
   exact .load hp ⟨⟨f1, f2, f3, f4, f5, f6⟩, g1, g2, hcb, .inr ⟨⟨q1, q2, q3, q4⟩, .inr (.inr (.inr (.inl ⟨rfl, c1, c2⟩)))⟩⟩ rfl hcc.symm (ls (slA m.a.w + 1 + ix)) (.inr ⟨c1, .inl ⟨rfl, c2⟩⟩)
  rw [if_neg c2]
  by_cases c3 : ceN c = slV m.a.w ∧ slS m.a.w = 2
  ·rw [if_pos c3]
   exact .load hp ⟨⟨f1, f2, f3, f4, f5, f6⟩, g1, g2, hcb, .inr ⟨⟨q1, q2, q3, q4⟩, .inr (.inr (.inl ⟨rfl, c1, c3.2, by cases x : ceF c; exact absurd (.inl x) c2; rfl, c3.1⟩))⟩⟩ rfl hcc.symm (ls (slA m.a.w + 1 + ix)) (.inr ⟨c1, .inr ⟨c2, .inl ⟨rfl, c3⟩⟩⟩)
  ·rw [if_neg c3]
   exact .load hp ⟨⟨f1, f2, f3, f4, f5, f6⟩, g1, g2, hcb, .inl rfl⟩ rfl hcc.symm (ls (slA m.a.w + 1 + ix)) (.inr ⟨c1, .inr ⟨c2, .inr ⟨rfl, c3⟩⟩⟩)
 rcases h with ⟨hp, hk, h2, hF, hN⟩ | h
 ·have e : m.a.step C who A = (false, { m.a with pc := 0 }, (A.by who).cas (C.slot m.a.hs) m.a.w (putSlot 1 (slA m.a.w) (slG m.a.w) (slV m.a.w + 1))) := by
   unfold Ac.step; rw [if_neg (by omega), if_neg (by omega), if_neg (by omega), if_pos hp]
  rw [e, q1]
  exact .stop hp h2 ⟨⟨f1, f2, f3, f4, f5, f6⟩, g1, g2, g3, .inl rfl⟩ rfl
 rcases h with ⟨hp, hk, h2⟩ | ⟨hp, hk⟩
 ·by_cases c : A.w (slA m.a.w + 1 + ix) = m.a.cell
  ·have e : m.a.step C who A = (true, ({ m.a with pc := 0 } : Ac).fin 0 (ceV m.a.cell) ((A.by who).cas m.a.at' m.a.cell (putCell m.a.v false 0)).s, (A.by who).cas m.a.at' m.a.cell (putCell m.a.v false 0)) := by
    unfold Ac.step; rw [if_neg (by omega), if_neg (by omega), if_neg (by omega), if_neg (by omega), if_pos hp, if_pos (by rw [hat]; exact c)]
   rw [e, hat, cas_yes (show (A.by who).w (slA m.a.w + 1 + ix) = m.a.cell from c), f4]
   exact .lay hp hk h2 c ⟨rfl, rfl, rfl, (aft_store (who := who) (A := A) (a := slA m.a.w + 1 + ix) (v := putCell v false 0) ok (by omega)).s⟩
  ·have e : m.a.step C who A = (false, { m.a with pc := 0 }, (A.by who).cas m.a.at' m.a.cell (putCell m.a.v false 0)) := by
    unfold Ac.step; rw [if_neg (by omega), if_neg (by omega), if_neg (by omega), if_neg (by omega), if_pos hp, if_neg (by rw [hat]; exact c)]
   rw [e, hat, cas_no (show (A.by who).w (slA m.a.w + 1 + ix) ≠ m.a.cell from c)]
   exact .again hp c ⟨⟨f1, f2, f3, f4, f5, f6⟩, g1, g2, g3, .inl rfl⟩ rfl
 ·by_cases hl : lives (A.w (C.slot (hdSl n))) (hdGe n)
  ·have l1 : lives (A.w (C.slot m.a.hs)) m.a.hg := by rw [q1, q2]; exact hl
   by_cases l2 : slA (A.w (C.slot (hdSl n))) = slA m.a.w
   ·have e : m.a.step C who A = (true, m.a.fin (if m.a.kd = 3 then 8 else 0) (ceV m.a.cell) m.a.rd, (A.by who).load (C.slot m.a.hs)) := by
     unfold Ac.step; rw [if_neg (by omega), if_neg (by omega), if_neg (by omega), if_neg (by omega), if_neg (by omega), if_pos l1, if_pos (by rw [q1]; exact l2)]
    rw [e, q1, f1]
    exact .look hp hk hl l2 ⟨rfl, rfl, rfl, rfl⟩
   ·have e : m.a.step C who A = (false, { m.a with pc := 0 }, (A.by who).load (C.slot m.a.hs)) := by
     unfold Ac.step; rw [if_neg (by omega), if_neg (by omega), if_neg (by omega), if_neg (by omega), if_neg (by omega), if_pos l1, if_neg (by rw [q1]; exact l2)]
    rw [e, q1]
    exact .else' hp hl l2 ⟨⟨f1, f2, f3, f4, f5, f6⟩, g1, g2, g3, .inl rfl⟩ rfl
  ·have l1 : ¬ lives (A.w (C.slot m.a.hs)) m.a.hg := by rw [q1, q2]; exact hl
   have e : m.a.step C who A = (true, m.a.fin 3 0 ((A.by who).load (C.slot m.a.hs)).s, (A.by who).load (C.slot m.a.hs)) := by
    unfold Ac.step; rw [if_neg (by omega), if_neg (by omega), if_neg (by omega), if_neg (by omega), if_neg (by omega), if_neg l1]
   rw [e, q1]
   exact .gone (.inr hp) hl ⟨rfl, rfl, rfl, ls (C.slot (hdSl n))⟩
end Go.Fl
namespace Go.Fl
open Go
set_option linter.unusedVariables false
set_option linter.unusedSimpArgs false
variable {N : Nm} {A B : Ar} {σ : Mem} {K : Value → Mem → Prop} {C : Cf} {who : Int}
theorem AOb.min {p : Nat} {O : List Nat} {m : Ak} (h : AOb N p O m σ) : ∃ O', AOb N p O' m σ ∧ (∀ i ∈ O', i ∈ O) ∧ ∀ i ∈ O', σ.get i ≠ none := by
 obtain ⟨⟨a, g1, g2⟩, own, pO⟩ := h
 by_cases c4 : m.a.pc = 4
 ·obtain ⟨q, rfl, qO, qp, gq⟩ := g2 c4
  refine ⟨[p, q], ⟨⟨some q, g1, fun _ => ⟨q, rfl, by simp, qp, gq⟩⟩, fun i hi => ?_, by simp⟩, fun i hi => ?_, fun i hi => ?_⟩ <;>
  ·simp only [List.mem_cons, List.not_mem_nil, or_false] at hi
   rcases hi with rfl | rfl <;> first | exact own _ pO | exact own _ qO | exact pO | exact qO | (rw [g1]; simp) | (rw [gq]; simp)
 ·refine ⟨[p], ⟨⟨a, g1, fun e => absurd e c4⟩, fun i hi => ?_, by simp⟩, fun i hi => ?_, fun i hi => ?_⟩ <;>
  ·rw [List.mem_singleton] at hi
   subst hi
   first | exact own _ pO | exact pO | (rw [g1]; simp)
structure Ev (C : Cf) (n : Int) (own : Bool) (z a W bb : Int) (A : Ar) : Prop where
 ol : Ol C A.w n own z a
 W : A.w (C.slot (hdSl n)) = W
 ok : A.ok bb
 n1 : C.len ≤ A.n
 n2 : (A.n : Int) ≤ 200000000
theorem Ev.mono {n z a W bb b2 : Int} {own : Bool} (h : Ev C n own z a W bb A) (hb : bb ≤ b2) : Ev C n own z a W b2 A := ⟨h.ol, h.W, ok_mono h.ok hb, h.n1, h.n2⟩
end Go.Fl
namespace Go.Fl
open Go
set_option linter.unusedVariables false
set_option linter.unusedSimpArgs false
variable {N : Nm} {A B : Ar} {σ : Mem} {K : Value → Mem → Prop} {C : Cf} {who : Int}
theorem Bgn.tb {z c V : Int} {L : Int → Int} (g : Geo C z c) (h : Bgn C z c V L A) : TbM C z c A.w := by
 have hc := g.hc
 refine ⟨⟨⟨g.hz, (class_bd z).2⟩, by rw [h.o]; omega, fun j _ _ => h.ok.w _, fun j j0 j1 hj => ?_⟩, h.o, h.ev, h.ch _ (Int.le_refl _) hc.2⟩
 by_cases e : j ≤ c
 ·rw [h.ev j j0 e] at hj; omega
 ·rw [h.ch j (by omega) j1]; decide
theorem Bgn.mi {P : Prop} {z c V : Int} {L : Int → Int} (g : Geo C z c) (h : Bgn C z c V L A) (hP : P → Cn C z c (roomOf (classOf z)) 0 A.w) (hV : 0 ≤ V ∧ V ≤ 4194303) : MI P C z c A.w L V 1 false (3 * z + 40 + c) (Mv.new (C.base c) 2 z 0 1 false) A.w := by
 obtain ⟨sz, szr⟩ := class_room' g.hz
 refine ⟨⟨rfl, rfl, rfl, rfl, rfl, rfl⟩, ⟨Int.le_refl 0, (by decide : (0 : Int) < 18446744073709551616)⟩, ⟨Int.le_refl 0, (by decide : (0 : Int) < 18446744073709551616)⟩, ⟨Int.le_refl 0, by show (0 : Int) ≤ z; omega⟩, ⟨Int.le_refl 0, (by decide : (0 : Int) ≤ 3)⟩, hV, by rw [if_neg (by decide)]; exact h.sl, h.hd, .inl ⟨rfl, fun x x0 x1 => ?_, hP, .inl ⟨rfl, rfl, rfl, .inl ⟨rfl, Cw.refl, Int.le_refl _⟩⟩⟩⟩
 obtain ⟨q1, q2, q3⟩ := h.cl x x0 x1
 rw [q1]
 have hf : ceF (L x) = false := decide_eq_false (by omega)
 exact ⟨by unfold ceV; omega, fun q => by rw [hf] at q; cases q⟩
theorem MOb.arena {p : Nat} {O : List Nat} {m : Mv} {τ : Mem} (h : MOb N p O m σ) (x : Keep N.l σ τ) : MOb N p O m τ := h.keep x fun i hi hl => h.own i hi hl
theorem MI.q1 {P : Prop} {z c V st q : Int} {T L : Int → Int} {loc : Bool} {m : Mv} {w : Int → Int} (g : Geo C z c) (hmi : MI P C z c T L V st loc q m w) : 1 ≤ q := by
 have ez := g.eq.zb
 rcases hmi.ph with ⟨_, _, _, ⟨g1, g2, g3, ⟨g4, _, g5⟩ | ⟨g4, _, _, k, g7, g8, g9, g10⟩⟩ | ⟨g1, g2, g3, ⟨_, g4, _, _, _, g5⟩ | ⟨_, ⟨_, g4, _, _, _, g5⟩ | ⟨_, g4, _, g5⟩ | ⟨_, Vm, _, _, _, g4, _, g5⟩ | ⟨_, g4, _, g5⟩⟩⟩⟩ | ⟨_, _, _, _, g2, _, _, ⟨g4, _, _, g5⟩ | ⟨_, ⟨g4, _, g5⟩ | ⟨g4, _, g5⟩⟩⟩
 ·have := g.hc; omega
 ·have := g.hc; omega
 ·omega
 ·omega
 ·omega
 ·have a1 : 0 ≤ (if st = 2 then (4 : Int) else 3 * z + 12) := by split <;> omega
  have a2 : 3 * (z - m.a.i) + 1 + (if m.a.pc = 5 then (if w (C.base c + 1 + m.a.i) = m.a.cell then (-1 : Int) else 1) else if m.a.pc = 6 then -2 else 0) ≥ 1 := by
   have := hmi.ib
   rcases g4 with ⟨p, hi⟩ | ⟨p, hi⟩ | ⟨p, hi⟩ | ⟨p, hi⟩
   ·rw [p, if_neg (by decide), if_neg (by decide)]; omega
   ·rw [p, if_pos rfl]; split <;> omega
   ·rw [p, if_neg (by decide), if_pos rfl]; omega
   ·rw [p, if_neg (by decide), if_neg (by decide)]; omega
  omega
 ·omega
 ·omega
 ·omega
 ·omega
theorem argI_nil {k : IntKind} : ArgI k σ (.slice none 0 0) 0 (fun _ => 0) := ⟨none, 0, rfl, fun h => absurd h (Nat.lt_irrefl 0)⟩
end Go.Fl
namespace Go.Fl
open Go
set_option linter.unusedVariables false
set_option linter.unusedSimpArgs false
variable {N : Nm} {A B : Ar} {σ : Mem} {K : Value → Mem → Prop} {C : Cf} {who : Int}
def Cur (C : Cf) (c : Int) (loc : Bool) : Int := if loc = true then C.base (c + 1) else C.base c
structure Smv (C : Cf) (z c : Int) (L : Int → Int) (V st : Int) (loc : Bool) (w : Int → Int) : Prop where
 vb : 0 ≤ V ∧ V ≤ 4194303
 sb : (st = 1 ∨ st = 2) ∧ (loc = true → st = 1 ∧ 1 ≤ V)
 sl : w (C.slot 0) = putSlot st (Cur C c loc) 1 V
 hda : w (C.base c) = putHead 2 z 0 1 false
 lf : loc = false → ClA C z c L V st w
 lt : loc = true → (∃ k, (0 ≤ k ∧ k ≤ 3) ∧ w (C.base (c + 1)) = putHead k z 0 1 false) ∧ ∀ x, 0 ≤ x → x < z → Fzd (V - 1) (w (C.base c + 1 + x)) ∧ w (C.base (c + 1) + 1 + x) = L x ∧ 0 ≤ L x ∧ L x ≤ 1099511627775
theorem MI.sm {P : Prop} {z c V st q : Int} {T L : Int → Int} {loc : Bool} {m : Mv} {w : Int → Int} (h : MI P C z c T L V st loc q m w) : Smv C z c L V st loc w := by
 rcases h.ph with ⟨e, hc, hn, hh⟩ | ⟨e1, e2, e3, e4, e5, e6, e7, hh⟩
 ·refine ⟨h.vb, ⟨?_, fun q => by rw [e] at q; cases q⟩, h.sl, h.hda, fun _ => hc, fun q => by rw [e] at q; cases q⟩
  rcases hh with ⟨q, _⟩ | ⟨_, _, _, ⟨q, _⟩ | ⟨_, ⟨q, _⟩ | ⟨q, _⟩ | ⟨_, _, _, _, _, _, ⟨q, _⟩ | ⟨q, _⟩, _⟩ | ⟨q, _⟩⟩⟩
  ·exact .inl q
  ·exact .inl q
  ·exact .inl q
  ·exact .inl q
  ·exact .inr q
  ·exact .inl q
  ·exact .inl q
 ·refine ⟨h.vb, ⟨.inl e2, fun _ => ⟨e2, e3⟩⟩, h.sl, h.hda, fun q => by rw [e1] at q; (cases q), fun _ => ⟨?_, e7⟩⟩
  rcases hh with ⟨_, q, _⟩ | ⟨q, _⟩
  ·exact ⟨1, by decide, q⟩
  ·exact ⟨2, by decide, q⟩
theorem MD.sm {P : Prop} {z c V : Int} {T L : Int → Int} {loc : Bool} {m : Mv} {w : Int → Int} (h : MD P C z c T L V loc m w) : Smv C z c L V 1 loc w := by
 rcases h.r with ⟨e1, _, e3, _, _, _, e7, q, _⟩ | ⟨e1, _, e3⟩
 ·exact ⟨h.vb, ⟨.inl rfl, fun _ => ⟨rfl, e3⟩⟩, h.sl, h.hda, fun q => by rw [e1] at q; (cases q), fun _ => ⟨⟨2, by decide, q⟩, e7⟩⟩
 ·exact ⟨h.vb, ⟨.inl rfl, fun q => by rw [e1] at q; cases q⟩, h.sl, h.hda, fun _ => e3, fun q => by rw [e1] at q; cases q⟩
def Swv (C : Cf) (c V : Int) (loc : Bool) (x : Int) : Prop :=
 (∃ s' V', (s' = 1 ∨ s' = 2) ∧ (0 ≤ V' ∧ V' ≤ 4194303) ∧ x = putSlot s' (C.base c) 1 V' ∧ (loc = false → V' ≤ V) ∧ (loc = true → V' < V)) ∨ loc = true ∧ x = putSlot 1 (C.base (c + 1)) 1 V
structure Amv (C : Cf) (z c : Int) (L : Int → Int) (V : Int) (loc : Bool) (kd ix v old : Int) (m : Ak) : Prop where
 lg : Lg C 65536 false kd ix v old m
 sw : m.a.pc ≠ 0 → Swv C c V loc m.a.w
 cl : m.a.pc = 6 → slA m.a.w = Cur C c loc → ceV m.a.cell = L ix
theorem Amv.new (hC : C.ok) {z c V kd ix v old : Int} {L : Int → Int} {loc : Bool} : Amv C z c L V loc kd ix v old (Ak.new kd 65536 ix v old false) :=
 ⟨Lg.new hC, fun q => absurd rfl q, fun q => by have q' : (0 : Int) = 6 := q; omega⟩
theorem Swv.ad {z c V x : Int} {loc : Bool} (g : Geo C z c) (h : Swv C c V loc x) (hv : 0 ≤ V ∧ V ≤ 4194303) :
  slG x = 1 ∧ ((slS x = 1 ∨ slS x = 2) ∧ slA x = C.base c ∧ (loc = false → slV x ≤ V) ∧ (loc = true → slV x < V) ∨ loc = true ∧ slS x = 1 ∧ slA x = C.base (c + 1) ∧ slV x = V) := by
 have e := g.eq
 have eb := e.nb; have eW := e.Wb; have eb0 := e.b0; have el := e.l1; have el2 := e.l2; have eT := e.Tb; have eS := e.Sb; have eC := e.Cb
 rcases h with ⟨s', V', h1, h2, h3, h4, h5⟩ | ⟨h1, h2⟩
 ·obtain ⟨p1, p2, p3, p4⟩ := sl_put (st := s') (ad := C.base c) (ge := 1) (ve := V') (by omega) (by omega) (by decide) h2
  rw [h3, p1, p2, p3, p4]
  exact ⟨rfl, .inl ⟨h1, rfl, h4, h5⟩⟩
 ·obtain ⟨p1, p2, p3, p4⟩ := sl_put (st := 1) (ad := C.base (c + 1)) (ge := 1) (ve := V) (by decide) (by omega) (by decide) hv
  rw [h2, p1, p2, p3, p4]
  exact ⟨rfl, .inr ⟨h1, rfl, rfl, rfl⟩⟩
theorem Amv.mv {z c V V' kd ix v old : Int} {L : Int → Int} {loc loc' : Bool} {m : Ak} (g : Geo C z c) (h : Amv C z c L V loc kd ix v old m) (hv : 0 ≤ V ∧ V ≤ 4194303) (x : loc' = loc ∧ V' = V ∨ loc = false ∧ loc' = true ∧ V' = V + 1) : Amv C z c L V' loc' kd ix v old m := by
 rcases x with ⟨rfl, rfl⟩ | ⟨rfl, rfl, rfl⟩
 ·exact h
 ·have e := g.eq
  have eb := e.nb; have eW := e.Wb
  have key : m.a.pc ≠ 0 → ∃ s' V', (s' = 1 ∨ s' = 2) ∧ (0 ≤ V' ∧ V' ≤ 4194303) ∧ m.a.w = putSlot s' (C.base c) 1 V' ∧ V' ≤ V := fun hp => by
   rcases h.sw hp with ⟨s', V', h1, h2, h3, h4, _⟩ | ⟨h1, _⟩
   ·exact ⟨s', V', h1, h2, h3, h4 rfl⟩
   ·cases h1
  refine ⟨h.lg, fun hp => ?_, fun hp ha => ?_⟩
  ·obtain ⟨s', V', h1, h2, h3, h4⟩ := key hp
   exact .inl ⟨s', V', h1, h2, h3, fun q => (by cases q), fun _ => by omega⟩
  ·exfalso
   obtain ⟨_, ⟨_, q, _⟩ | ⟨q, _⟩⟩ := (h.sw (by omega)).ad g hv
   ·rw [q] at ha; unfold Cur at ha; rw [if_pos rfl] at ha; omega
   ·cases q
inductive AmvR (C : Cf) (z c : Int) (L : Int → Int) (V st : Int) (loc : Bool) (kd ix v old : Int) (A : Ar) : Bool → Ak → Ar → Prop
 | go {m' : Ak} {A' : Ar} : Amv C z c L V loc kd ix v old m' → A'.w = A.w → AmvR C z c L V st loc kd ix v old A false m' A'
 | stop {m' : Ak} {A' : Ar} : kd ≠ 1 → loc = false → st = 2 → Amv C z c L (V + 1) loc kd ix v old m' → A'.w = upd A.w (C.slot 0) (putSlot 1 (C.base c) 1 (V + 1)) → AmvR C z c L V st loc kd ix v old A false m' A'
 | read {m' : Ak} {A' : Ar} : kd = 1 → m'.a.oE = 0 → m'.a.oV = L ix → A'.w = A.w → AmvR C z c L V st loc kd ix v old A true m' A'
 | lay {m' : Ak} {A' : Ar} : kd ≠ 1 → m'.a.oE = 0 → m'.a.oV = L ix → (loc = false → ceF (A.w (C.base c + 1 + ix)) = false ∨ ceN (A.w (C.base c + 1 + ix)) < V) → A'.w = upd A.w (Cur C c loc + 1 + ix) (putCell v false 0) → AmvR C z c L V st loc kd ix v old A true m' A'
theorem Amv.step {z c V st kd ix v old bb : Int} {L : Int → Int} {loc : Bool} {m : Ak} (g : Geo C z c) (hs : Smv C z c L V st loc A.w) (h : Amv C z c L V loc kd ix v old m) (hi : 0 ≤ ix ∧ ix < z) (hk : kd = 1 ∨ kd = 2) (ok : A.ok bb) (hb : bb < 4611686018427387904) (hn : C.len ≤ A.n) (hn2 : (A.n : Int) ≤ 200000000) :
  m.fit C A ∧ (m.step C who A).2.2.n = A.n ∧ (m.step C who A).2.2.ok (bb + 1) ∧ AmvR C z c L V st loc kd ix v old A (m.step C who A).1 (m.step C who A).2.1 (m.step C who A).2.2 := by
 have hC := g.hC
 have e := g.eq
 have ez := e.zb; have eb := e.nb; have eW := e.Wb; have eb0 := e.b0; have el := e.l1; have el2 := e.l2; have eC := e.Cb; have eS := e.Sb; have eT := e.Tb; have ec := g.hc; have es := e.s
 have cu : Cur C c loc = C.base c ∨ Cur C c loc = C.base (c + 1) := by unfold Cur; split; exact .inr rfl; exact .inl rfl
 obtain ⟨p1, p2, p3, p4⟩ := sl_put (st := st) (ad := Cur C c loc) (ge := 1) (ve := V) (by have := hs.sb.1; omega) (by rcases cu with q | q <;> omega) (by decide) hs.vb
 have hsl := hs.sl
 have hlv : lives (A.w (C.slot 0)) 1 := ⟨by rw [hsl, p1]; have := hs.sb.1; omega, by rw [hsl, p3]⟩
 obtain ⟨k1, k2, k3, k4, k5⟩ := hd_put (k := 2) (s := z) (t := 0) (g := 1) (o := false) (by decide) (by omega) (by decide) (by decide)
 have hE : LgE C 65536 false z ix A m := by
  refine ⟨by decide, h65.2.2, by rw [h65.1]; omega, fun _ => ?_, hi, fun hp => ?_, fun hp => ?_, hn, hn2⟩
  ·rw [h65.1, hsl, p1]; have := hs.sb.1; omega
  ·obtain ⟨_, ⟨_, q, _⟩ | ⟨q1, _, q, _⟩⟩ := (h.sw (by omega)).ad g hs.vb
   ·rw [q, hs.hda]; exact ⟨k5, k2⟩
   ·obtain ⟨⟨k, kb, q2⟩, _⟩ := hs.lt q1
    obtain ⟨j1, j2, j3, j4, j5⟩ := hd_put (k := k) (s := z) (t := 0) (g := 1) (o := false) kb (by omega) (by decide) (by decide)
    rw [q, q2]; exact ⟨j5, j2⟩
  ·obtain ⟨_, ⟨_, q, _⟩ | ⟨q1, _, q, _⟩⟩ := (h.sw hp).ad g hs.vb <;> omega
 obtain ⟨hf, hr⟩ := h.lg.step (who := who) hC hE ok hb
 have tl : ∀ x, ((A.by who).load x).n = A.n ∧ ((A.by who).load x).ok (bb + 1) := fun x => by
  have a1 := aft_load (who := who) (A := A) (a := x) ok (by omega)
  exact ⟨rfl, a1.ok (by omega) ok ok.w⟩
 have ts : ∀ y v, (0 ≤ v ∧ v < 18446744073709551616) → ((A.by who).store y v).n = A.n ∧ ((A.by who).store y v).ok (bb + 1) := fun y v hv => by
  have a1 := aft_store (who := who) (A := A) (a := y) (v := v) ok (by omega)
  exact ⟨a1.n, a1.ok (by omega) ok fun i => upd_cases (P := fun x => 0 ≤ x ∧ x < 18446744073709551616) hv (ok.w i)⟩
 have lw : ∀ x, ((A.by who).load x).w = A.w := fun _ => rfl
 generalize hst : m.step C who A = r at hr ⊢
 obtain ⟨d, m', A'⟩ := r
 dsimp only at hr ⊢
 refine ⟨hf, ?_⟩
 cases hr with
 | see hp hl lg pc ew _ =>
  refine ⟨(tl _).1, (tl _).2, .go ⟨lg, fun _ => ?_, fun q => by rw [pc] at q; omega⟩ (lw _)⟩
  rw [ew, h65.1, hsl]
  unfold Cur
  cases hloc : loc with
  | true =>
   rw [if_pos rfl, (hs.sb.2 hloc).1]; exact .inr ⟨rfl, rfl⟩
  | false =>
   rw [if_neg (by decide)]; exact .inl ⟨st, V, hs.sb.1, hs.vb, rfl, fun _ => Int.le_refl _, fun q => by cases q⟩
 | gone _ hl => rw [h65.1, h65.2.1] at hl; exact absurd hlv hl
 | head hp lg pc ew =>
  exact ⟨(tl _).1, (tl _).2, .go ⟨lg, fun _ => by rw [ew]; exact h.sw (by omega), fun q => by rw [pc] at q; omega⟩ (lw _)⟩
 | load hp lg ew ec' _ hh =>
  refine ⟨(tl _).1, (tl _).2, .go ⟨lg, fun _ => by rw [ew]; exact h.sw (by omega), fun q ha => ?_⟩ (lw _)⟩
  rw [ew] at ha
  rw [ec', ha]
  cases hloc : loc with
  | true =>
   obtain ⟨_, hc⟩ := hs.lt hloc
   obtain ⟨_, q1, q2, q3⟩ := hc ix hi.1 hi.2
   unfold Cur
   rw [if_pos rfl, q1]; unfold ceV; omega
  | false =>
   unfold Cur
   rw [if_neg (by decide)]
   exact (hs.lf hloc ix hi.1 hi.2).1
 | stop hp h2 lg pc =>
  obtain ⟨q1, hq⟩ := (h.sw (by omega)).ad g hs.vb
  rw [h65.1]
  have kd1 : kd ≠ 1 := fun q => by
   obtain ⟨_, _, _, _, hh⟩ := h.lg
   rcases hh with hh | ⟨_, hh | hh | ⟨_, hh, _⟩ | ⟨hh, _⟩ | ⟨hh, _⟩⟩
   ·omega
   ·omega
   ·omega
   ·exact hh (.inl q)
   ·omega
   ·omega
  by_cases hc : A.w (C.slot 0) = m.a.w
  ·rw [cas_yes (show (A.by who).w (C.slot 0) = m.a.w from hc)]
   have hc' := hc
   rw [hsl] at hc'
   have hst2 : st = 2 := by rw [← hc', p1] at h2; exact h2
   have hloc : loc = false := by
    cases hl : loc with
    | false => rfl
    | true => have := (hs.sb.2 hl).1; omega
   have hcu : Cur C c loc = C.base c := by rw [hloc]; rfl
   have ew : putSlot 1 (slA m.a.w) (slG m.a.w) (slV m.a.w + 1) = putSlot 1 (C.base c) 1 (V + 1) := by rw [← hc', p2, p3, p4, hcu]
   rw [ew]
   exact ⟨(ts _ _ (putSlot_in _ _ _ _)).1, (ts _ _ (putSlot_in _ _ _ _)).2, .stop kd1 hloc hst2 ⟨lg, fun q => absurd pc q, fun q => by rw [pc] at q; omega⟩ store_w⟩
  ·rw [cas_no (show (A.by who).w (C.slot 0) ≠ m.a.w from hc)]
   exact ⟨(tl _).1, (tl _).2, .go ⟨lg, fun q => absurd pc q, fun q => by rw [pc] at q; omega⟩ (lw _)⟩
 | lay hp hlk hcond hcell ho =>
  obtain ⟨q1, hq⟩ := (h.sw (by omega)).ad g hs.vb
  have kd1 : kd ≠ 1 := fun q => hlk (.inl q)
  have key : slA m.a.w = Cur C c loc ∧ (loc = false → slV m.a.w ≤ V) := by
   rcases hq with ⟨_, q2, q3, q4⟩ | ⟨q2, _, q3, _⟩
   ·cases hl : loc with
    | false => exact ⟨q2, fun _ => q3 hl⟩
    | true =>
     exfalso
     obtain ⟨_, hc⟩ := hs.lt hl
     obtain ⟨⟨f1, f2⟩, _⟩ := hc ix hi.1 hi.2
     rw [q2] at hcell
     rw [← hcell] at hcond
     have := q4 hl
     rcases hcond with q | q
     ·rw [f1] at q; cases q
     ·rw [f2] at q; omega
   ·subst q2
    exact ⟨q3, fun q => by cases q⟩
  obtain ⟨ka, kv⟩ := key
  rw [ka] at hcell ⊢
  refine ⟨(ts _ _ (putCell_in _ _ _)).1, (ts _ _ (putCell_in _ _ _)).2, .lay kd1 ho.1 ?_ (fun hl => ?_) store_w⟩
  ·rw [ho.2.2.1, ← hcell]
   cases hloc : loc with
   | true =>
    obtain ⟨_, hc⟩ := hs.lt hloc
    obtain ⟨_, q1, q2, q3⟩ := hc ix hi.1 hi.2
    unfold Cur
    rw [if_pos rfl, q1]; unfold ceV; omega
   | false =>
    unfold Cur
    rw [if_neg (by decide)]
    exact (hs.lf hloc ix hi.1 hi.2).1
  ·have hcu : Cur C c loc = C.base c := by rw [hl]; rfl
   rw [hcu] at hcell
   rw [hcell]
   have := kv hl
   rcases hcond with q | q
   ·exact .inl q
   ·exact .inr (by omega)
 | again hp _ lg pc => exact ⟨(tl _).1, (tl _).2, .go ⟨lg, fun q => absurd pc q, fun q => by rw [pc] at q; omega⟩ (lw _)⟩
 | look hp hlk hl ha ho =>
  have kd1 : kd = 1 := by
   rcases hlk with q | ⟨q, _⟩
   ·exact q
   ·omega
  rw [h65.1, hsl, p2] at ha
  exact ⟨(tl _).1, (tl _).2, .read kd1 (by rw [ho.1, if_neg (by omega)]) (by rw [ho.2.2.1]; exact h.cl hp ha.symm) (lw _)⟩
 | else' hp _ _ lg pc => exact ⟨(tl _).1, (tl _).2, .go ⟨lg, fun q => absurd pc q, fun q => by rw [pc] at q; omega⟩ (lw _)⟩
end Go.Fl
namespace Go.Fl
open Go
set_option linter.unusedVariables false
set_option linter.unusedSimpArgs false
variable {N : Nm} {A B : Ar} {σ : Mem} {K : Value → Mem → Prop} {C : Cf} {who : Int}
theorem MOb.min {p : Nat} {O : List Nat} {m : Mv} (h : MOb N p O m σ) : ∃ O', MOb N p O' m σ ∧ (∀ i ∈ O', i ∈ O) ∧ ∀ i ∈ O', σ.get i ≠ none := by
 obtain ⟨⟨a, g1, g2⟩, own, pO⟩ := h
 by_cases c1 : m.a.pc = 1
 ·obtain ⟨q, rfl, qO, qp, gq⟩ := g2 c1
  refine ⟨[p, q], ⟨⟨some q, g1, fun _ => ⟨q, rfl, by simp, qp, gq⟩⟩, fun i hi => ?_, by simp⟩, fun i hi => ?_, fun i hi => ?_⟩ <;>
  ·simp only [List.mem_cons, List.not_mem_nil, or_false] at hi
   rcases hi with rfl | rfl <;> first | exact own _ pO | exact own _ qO | exact pO | exact qO | (rw [g1]; simp) | (rw [gq]; simp)
 ·refine ⟨[p], ⟨⟨a, g1, fun e => absurd e c1⟩, fun i hi => ?_, by simp⟩, fun i hi => ?_, fun i hi => ?_⟩ <;>
  ·rw [List.mem_singleton] at hi
   subst hi
   first | exact own _ pO | exact pO | (rw [g1]; simp)
abbrev Rdr := Option (Nat × List Nat × Ak)
def rdP : Rdr → Value
 | none => .pointer none
 | some (p, _, _) => .pointer (some ⟨p, 0, none⟩)
structure Pr (N : Nm) (σ0 : Mem) (p : Nat) (O : List Nat) (m : Mv) (a : Rdr) (τ : Mem) : Prop where
 mo : MOb N p O m τ
 ma : ∀ x ∈ O, τ.get x ≠ none ∧ σ0.get x = none
 ao : ∀ q Q k, a = some (q, Q, k) → AOb N q Q k τ ∧ (∀ x ∈ Q, τ.get x ≠ none ∧ σ0.get x = none) ∧ ∀ x ∈ Q, x ∉ O
 ext : Ext σ0 τ
theorem Pr.first {σ0 τ : Mem} {p : Nat} {m : Mv} (hp : σ0.get p = none) (h : MOb N p [p] m τ) (x : Ext σ0 τ) : Pr N σ0 p [p] m none τ := by
 refine ⟨h, fun y hy => ?_, fun _ _ _ e => (by cases e), x⟩
 rw [List.mem_singleton.1 hy]
 obtain ⟨⟨a, g, _⟩, _⟩ := h
 exact ⟨by rw [g]; simp, hp⟩
theorem Pr.mstep {σ0 τ τ' : Mem} {p : Nat} {O O' : List Nat} {m m' : Mv} {a : Rdr} (h : Pr N σ0 p O m a τ) (hf : N.fr σ0) (hO : ∀ i ∈ O', i ∈ O ∨ τ.get i = none) (hob : MOb N p O' m' τ') (hk : Keep (O ++ N.l) τ τ') : ∃ O2, Pr N σ0 p O2 m' a τ' ∧ ∀ i ∈ O2, i ∈ O ∨ τ.get i = none := by
 obtain ⟨O2, g1, g2, g3⟩ := hob.min
 refine ⟨O2, ⟨g1, fun x hx => ⟨g3 x hx, ?_⟩, fun q Q k e => ?_, h.ext.keep' hk fun j hj => ?_⟩, fun i hi => hO i (g2 i hi)⟩
 ·rcases hO x (g2 x hx) with y | y
  ·exact (h.ma x y).2
  ·exact h.ext.none y
 ·obtain ⟨a1, a2, a3⟩ := h.ao q Q k e
  have dj : ∀ x ∈ Q, x ∉ O ++ N.l := fun x hx => by
   simp only [List.mem_append, not_or]; exact ⟨a3 x hx, a1.own x hx⟩
  refine ⟨a1.keep hk dj, fun x hx => ⟨?_, (a2 x hx).2⟩, fun x hx hx' => ?_⟩
  ·cases e : τ.get x with
   | none => exact absurd e (a2 x hx).1
   | some b => rw [hk _ _ e (dj x hx)]; simp
  ·rcases hO x (g2 x hx') with y | y
   ·exact a3 x hx y
   ·exact (a2 x hx).1 y
 ·rcases List.mem_append.1 hj with y | y
  ·exact (h.ma j y).2
  ·exact hf.all j y
theorem Pr.astep {σ0 τ τ' : Mem} {p q : Nat} {O Q Q' : List Nat} {m : Mv} {k k' : Ak} (h : Pr N σ0 p O m (some (q, Q, k)) τ) (hf : N.fr σ0) (hO : ∀ i ∈ Q', i ∈ Q ∨ τ.get i = none) (hob : AOb N q Q' k' τ') (hk : Keep (Q ++ N.l) τ τ') : ∃ Q2, Pr N σ0 p O m (some (q, Q2, k')) τ' ∧ ∀ i ∈ Q2, i ∈ Q ∨ τ.get i = none := by
 obtain ⟨Q2, g1, g2, g3⟩ := hob.min
 obtain ⟨a1, a2, a3⟩ := h.ao q Q k rfl
 have dj : ∀ x ∈ O, x ∉ Q ++ N.l := fun x hx => by
  simp only [List.mem_append, not_or]; exact ⟨fun y => a3 x y hx, h.mo.own x hx⟩
 have ext' : Ext σ0 τ' := h.ext.keep' hk fun j hj => by
  rcases List.mem_append.1 hj with y | y
  ·exact (a2 j y).2
  ·exact hf.all j y
 refine ⟨Q2, ⟨h.mo.keep hk dj, fun x hx => ⟨?_, (h.ma x hx).2⟩, fun q' Q' k' e => ?_, ext'⟩, fun i hi => hO i (g2 i hi)⟩
 ·cases e : τ.get x with
  | none => exact absurd e (h.ma x hx).1
  | some b => rw [hk _ _ e (dj x hx)]; simp
 ·cases e
  refine ⟨g1, fun x hx => ⟨g3 x hx, ?_⟩, fun x hx hx' => ?_⟩
  ·rcases hO x (g2 x hx) with y | y
   ·exact (a2 x y).2
   ·exact h.ext.none y
  ·rcases hO x (g2 x hx) with y | y
   ·exact a3 x y hx'
   ·exact (h.ma x hx').1 y
theorem Pr.anew {σ0 τ τ' : Mem} {p q : Nat} {O : List Nat} {m : Mv} {k : Ak} {a : Rdr} (h : Pr N σ0 p O m a τ) (hq : τ.get q = none) (hob : AOb N q [q] k τ') (x : Ext τ τ') : Pr N σ0 p O m (some (q, [q], k)) τ' := by
 refine ⟨h.mo.ext x, fun y hy => ⟨?_, (h.ma y hy).2⟩, fun q' Q' k' e => ?_, h.ext.trans x⟩
 ·cases e : τ.get y with
  | none => exact absurd e (h.ma y hy).1
  | some b => rw [x _ _ e]; simp
 ·cases e
  refine ⟨hob, fun y hy => ?_, fun y hy hy' => ?_⟩
  ·rw [List.mem_singleton.1 hy]
   obtain ⟨⟨a, g, _⟩, _⟩ := hob
   exact ⟨by rw [g]; simp, h.ext.none hq⟩
  ·rw [List.mem_singleton.1 hy] at hy'
   exact (h.ma q hy').1 hq
theorem Pr.drop {σ0 τ : Mem} {p : Nat} {O : List Nat} {m : Mv} {a : Rdr} (h : Pr N σ0 p O m a τ) : Pr N σ0 p O m none τ :=
 ⟨h.mo, h.ma, fun _ _ _ e => (by cases e), h.ext⟩
structure PrB (N : Nm) (σ0 : Mem) (p : Nat) (O : List Nat) (m : Mv) (a : Rdr) (b : Nat) (x : Blk) (τ : Mem) : Prop where
 pr : Pr N σ0 p O m a τ
 gb : τ.get b = some x
 nO : b ∉ O
 nQ : ∀ q Q k, a = some (q, Q, k) → b ∉ Q
 nN : b ∉ N.l
 b0 : σ0.get b = none
theorem PrB.mstep {σ0 τ τ' : Mem} {p b : Nat} {x : Blk} {O O' : List Nat} {m m' : Mv} {a : Rdr} (h : PrB N σ0 p O m a b x τ) (hf : N.fr σ0) (hO : ∀ i ∈ O', i ∈ O ∨ τ.get i = none) (hob : MOb N p O' m' τ') (hk : Keep (O ++ N.l) τ τ') : ∃ O2, PrB N σ0 p O2 m' a b x τ' := by
 obtain ⟨O2, g1, g2⟩ := h.pr.mstep hf hO hob hk
 refine ⟨O2, g1, hk _ _ h.gb (by simp only [List.mem_append, not_or]; exact ⟨h.nO, h.nN⟩), fun q => ?_, h.nQ, h.nN, h.b0⟩
 rcases g2 b q with y | y
 ·exact h.nO y
 ·rw [h.gb] at y; cases y
theorem PrB.astep {σ0 τ τ' : Mem} {p q b : Nat} {x : Blk} {O Q Q' : List Nat} {m : Mv} {k k' : Ak} (h : PrB N σ0 p O m (some (q, Q, k)) b x τ) (hf : N.fr σ0) (hO : ∀ i ∈ Q', i ∈ Q ∨ τ.get i = none) (hob : AOb N q Q' k' τ') (hk : Keep (Q ++ N.l) τ τ') : ∃ Q2, PrB N σ0 p O m (some (q, Q2, k')) b x τ' := by
 obtain ⟨Q2, g1, g2⟩ := h.pr.astep hf hO hob hk
 have nq := h.nQ q Q k rfl
 refine ⟨Q2, g1, hk _ _ h.gb (by simp only [List.mem_append, not_or]; exact ⟨nq, h.nN⟩), h.nO, fun q' Q' k' e hb => ?_, h.nN, h.b0⟩
 cases e
 rcases g2 b hb with y | y
 ·exact nq y
 ·rw [h.gb] at y; cases y
theorem PrB.anew {σ0 τ τ' : Mem} {p q b : Nat} {x : Blk} {O : List Nat} {m : Mv} {k : Ak} {a : Rdr} (h : PrB N σ0 p O m a b x τ) (hq : τ.get q = none) (hob : AOb N q [q] k τ') (e : Ext τ τ') : PrB N σ0 p O m (some (q, [q], k)) b x τ' := by
 refine ⟨h.pr.anew hq hob e, e _ _ h.gb, h.nO, fun q' Q' k' e' hb => ?_, h.nN, h.b0⟩
 cases e'
 rw [List.mem_singleton.1 hb] at h
 have := h.gb
 rw [hq] at this; cases this
theorem PrB.drop {σ0 τ : Mem} {p b : Nat} {x : Blk} {O : List Nat} {m : Mv} {a : Rdr} (h : PrB N σ0 p O m a b x τ) : PrB N σ0 p O m none b x τ :=
 ⟨h.pr.drop, h.gb, h.nO, fun _ _ _ e => (by cases e), h.nN, h.b0⟩
theorem PrB.set {σ0 τ : Mem} {p b : Nat} {x y : Blk} {O : List Nat} {m : Mv} {a : Rdr} (h : PrB N σ0 p O m a b x τ) : PrB N σ0 p O m a b y (τ.set b y) := by
 have hk : Keep [b] τ (τ.set b y) := fun i c hi hn => by
  rw [Mem.get_set_ne _ _ (fun e => hn (by rw [e]; simp))]; exact hi
 have ne : ∀ i, i ≠ b → (τ.set b y).get i = τ.get i := fun i hi => Mem.get_set_ne _ _ hi
 refine ⟨⟨h.pr.mo.keep hk fun i hi e => h.nO (by rw [List.mem_singleton.1 e] at hi; exact hi), fun i hi => ⟨?_, (h.pr.ma i hi).2⟩, fun q Q k e => ?_, fun i c hi => ?_⟩, Mem.get_set_same _ _ _, h.nO, h.nQ, h.nN, h.b0⟩
 ·rw [ne i fun e => h.nO (e ▸ hi)]; exact (h.pr.ma i hi).1
 ·obtain ⟨a1, a2, a3⟩ := h.pr.ao q Q k e
  have nq := h.nQ q Q k e
  refine ⟨a1.keep hk fun i hi e => nq (by rw [List.mem_singleton.1 e] at hi; exact hi), fun i hi => ⟨?_, (a2 i hi).2⟩, a3⟩
  rw [ne i fun e => nq (e ▸ hi)]; exact (a2 i hi).1
 ·rw [ne i fun e => by rw [e, h.b0] at hi; cases hi]; exact h.pr.ext _ _ hi
theorem PrB.arena {σ0 τ τ' : Mem} {p b : Nat} {x : Blk} {O : List Nat} {m : Mv} (h : PrB N σ0 p O m none b x τ) (hf : N.fr σ0) (k : Keep N.l τ τ') : PrB N σ0 p O m none b x τ' := by
 refine ⟨⟨h.pr.mo.arena k, fun i hi => ⟨?_, (h.pr.ma i hi).2⟩, fun _ _ _ e => (by cases e), h.pr.ext.keep' k hf.all⟩, k _ _ h.gb h.nN, h.nO, fun _ _ _ e => (by cases e), h.nN, h.b0⟩
 cases e : τ.get i with
 | none => exact absurd e (h.pr.ma i hi).1
 | some c => rw [k _ _ e (h.pr.mo.own i hi)]; simp
end Go.Fl
namespace Go.Fl
open Go
set_option linter.unusedVariables false
set_option linter.unusedSimpArgs false
variable {N : Nm} {A B : Ar} {σ : Mem} {K : Value → Mem → Prop} {C : Cf} {who : Int}
def Mv.adr (C : Cf) (m : Mv) : Int := if m.a.pc = 0 ∨ m.a.pc = 3 ∨ m.a.pc = 7 then C.slot m.a.hs else if m.a.pc = 4 ∨ m.a.pc = 5 then m.a.addr + 1 + m.a.i else if m.a.pc = 6 then m.a.sa + 1 + m.a.i else if m.a.pc = 9 then C.chunk m.a.sc + 1 else if m.a.pc = 10 then C.chunk (ofC C m.a.addr) + 1 else m.a.sa
theorem cas_only {y a o v : Int} (h : y ≠ a) : ((A.by who).cas a o v).w y = A.w y := by
 by_cases c : A.w a = o
 ·rw [cas_yes (show (A.by who).w a = o from c), store_w]; exact upd_ne _ _ h
 ·rw [cas_no (show (A.by who).w a ≠ o from c)]; rfl
theorem Mv.only {m : Mv} {y : Int} (p : 0 ≤ m.a.pc ∧ m.a.pc ≤ 11 ∧ m.a.pc ≠ 1) (hy : y ≠ m.adr C) : (m.step C who A).2.2.w y = A.w y := by
 have st : ∀ a v, y ≠ a → ((A.by who).store a v).w y = A.w y := fun a v h => by rw [store_w]; exact upd_ne _ _ h
 unfold Mv.adr at hy
 rcases (show m.a.pc = 0 ∨ m.a.pc = 2 ∨ m.a.pc = 3 ∨ m.a.pc = 4 ∨ m.a.pc = 5 ∨ m.a.pc = 6 ∨ m.a.pc = 7 ∨ m.a.pc = 8 ∨ m.a.pc = 9 ∨ m.a.pc = 10 ∨ m.a.pc = 11 by omega) with q | q | q | q | q | q | q | q | q | q | q <;> rw [q] at hy <;> simp at hy <;> unfold Mv.step <;> rw [q] <;> simp only [Int.reduceEq, if_true, if_false, Int.reduceNe, if_pos, if_neg]
 ·(repeat' split) <;> rfl
 ·exact st _ _ hy
 ·exact cas_only hy
 ·rfl
 ·exact cas_only hy
 ·exact st _ _ hy
 ·(repeat' split) <;> exact cas_only hy
 ·exact st _ _ hy
 ·exact st _ _ hy
 ·exact st _ _ hy
 ·exact st _ _ hy
def nQ : Int := putSlot 0 0 2 0
theorem nQ_f : slS nQ = 0 ∧ slA nQ = 0 ∧ slG nQ = 2 := ⟨(sl_put' (by decide) (by decide) (by decide)).1, (sl_put' (by decide) (by decide) (by decide)).2.1, (sl_put' (by decide) (by decide) (by decide)).2.2⟩
def frQ (C : Cf) (z a j : Int) (w0 w : Int → Int) : Prop := ∀ y, y ≠ C.slot 0 → y ≠ 1 → y ≠ C.slot 0 + 1 → y ≠ C.chunk j + 1 → ¬ (a < y ∧ y ≤ a + z) → w y = w0 y
def lQ (C : Cf) (z j : Int) (w0 : Int → Int) : Int := IntKind.u64.wrap (w0 (C.chunk j + 1) + IntKind.u64.wrap (-roomOf (classOf z)))
structure DqD (C : Cf) (z a j : Int) (w0 : Int → Int) (m : Dm) (A : Ar) : Prop where
 e : m.d.oE = 0
 fr : frQ C z a j w0 A.w
 sl : A.w (C.slot 0) = nQ
 lv : A.w (C.chunk j + 1) = lQ C z j w0
end Go.Fl
namespace Go.Fl
open Go
set_option linter.unusedVariables false
set_option linter.unusedSimpArgs false
variable {N : Nm} {A B : Ar} {σ : Mem} {K : Value → Mem → Prop} {C : Cf} {who : Int}
structure Mpc (C : Cf) (z c : Int) (T : Int → Int) (m : Mv) (w : Int → Int) : Prop where
 a : m.a.addr = C.base c ∧ m.a.hs = 0 ∧ m.a.hz = z
 i : 0 ≤ m.a.i ∧ m.a.i ≤ z
 p0 : 0 ≤ m.a.pc ∧ m.a.pc ≤ 11
 p1 : m.a.pc = 1 → ∃ k, PlG C (classOf z) T k m.t w
 p3 : m.a.pc = 4 ∨ m.a.pc = 5 ∨ m.a.pc = 6 → m.a.i < z
 p4 : m.a.pc = 2 ∨ m.a.pc = 6 ∨ m.a.pc = 8 ∨ m.a.pc = 9 ∨ m.a.pc = 11 → m.a.sa = C.base (c + 1) ∧ m.a.sc = c + 1
theorem MI.mpc {P : Prop} {z c V st q : Int} {T L : Int → Int} {loc : Bool} {m : Mv} {w : Int → Int} (h : MI P C z c T L V st loc q m w) : Mpc C z c T m w := by
 obtain ⟨c1, c2, c3, c4, c5, c6⟩ := h.con
 have hib := h.ib
 have pcs : (0 ≤ m.a.pc ∧ m.a.pc ≤ 11) ∧ (m.a.pc = 1 → ∃ k, PlG C (classOf z) T k m.t w) ∧ (m.a.pc = 4 ∨ m.a.pc = 5 ∨ m.a.pc = 6 → m.a.i < z) ∧ (m.a.pc = 2 ∨ m.a.pc = 6 ∨ m.a.pc = 8 ∨ m.a.pc = 9 ∨ m.a.pc = 11 → m.a.sa = C.base (c + 1) ∧ m.a.sc = c + 1) := by
  rcases h.ph with ⟨_, _, _, ⟨g1, g2, g3, ⟨g4, _⟩ | ⟨g4, _, _, k, g7, _⟩⟩ | ⟨g1, g2, g3, ⟨_, g4, _⟩ | ⟨_, ⟨_, g4, _⟩ | ⟨_, g4, _⟩ | ⟨_, Vm, _, _, _, g4, _⟩ | ⟨_, g4, _⟩⟩⟩⟩ | ⟨_, _, _, _, g2, _, _, ⟨g4, _⟩ | ⟨_, ⟨g4, _⟩ | ⟨g4, _⟩⟩⟩
  ·exact ⟨by omega, fun x => by omega, fun x => by omega, fun x => by omega⟩
  ·exact ⟨by omega, fun _ => ⟨k, g7⟩, fun x => by omega, fun x => by omega⟩
  ·exact ⟨by omega, fun x => by omega, fun x => by omega, fun _ => g2⟩
  ·exact ⟨by omega, fun x => by omega, fun x => by omega, fun _ => g2⟩
  ·exact ⟨by omega, fun x => by omega, fun x => by omega, fun _ => g2⟩
  ·exact ⟨by omega, fun x => by omega, fun x => by omega, fun _ => g2⟩
  ·exact ⟨by omega, fun x => by omega, fun x => by omega, fun _ => g2⟩
  ·exact ⟨by omega, fun x => by omega, fun x => by omega, fun _ => g2⟩
  ·exact ⟨by omega, fun x => by omega, fun x => by omega, fun _ => g2⟩
  ·exact ⟨by omega, fun x => by omega, fun x => by omega, fun _ => g2⟩
 exact ⟨⟨c1, c4, c3⟩, hib, pcs.1, pcs.2.1, pcs.2.2.1, pcs.2.2.2⟩
structure Ddi (C : Cf) (z c : Int) (T : Int → Int) (q : Int) (m : Mv) (w : Int → Int) : Prop where
  con : m.a.addr = C.base c ∧ m.a.hk = 2 ∧ m.a.hz = z ∧ m.a.hs = 0 ∧ m.a.hg = 1 ∧ m.a.ho = false
  wb : 0 ≤ m.a.w ∧ m.a.w < 18446744073709551616
  cb : 0 ≤ m.a.cell ∧ m.a.cell < 18446744073709551616
  ib : 0 ≤ m.a.i ∧ m.a.i ≤ z
  nb : 0 ≤ m.a.nn ∧ m.a.nn ≤ 1
  sl : w (C.slot 0) = nQ
  lo : ∀ j, 0 ≤ j → j < C.C → j ≠ c → j ≠ c + 1 → w (C.chunk j + 1) = 0
  ph : (w (C.chunk c + 1) = 0 ∧ w (C.chunk (c + 1) + 1) = 0 ∧
      (m.a.got = false ∧ m.a.nn = 0 ∧ (m.a.pc = 0 ∧ 1 ≤ q ∨ m.a.pc = 1 ∧ slS m.a.w = 1 ∧ ∃ k, PlG C (classOf z) T k m.t w ∧ 0 ≤ k ∧ 80 - k ≤ q) ∨
       m.a.got = true ∧ (m.a.sa = C.base (c + 1) ∧ m.a.sc = c + 1) ∧
        (m.a.nn = 0 ∧ slS m.a.w = 1 ∧ (m.a.pc = 2 ∧ 4 ≤ q ∨ m.a.pc = 3 ∧ 3 ≤ q) ∨ m.a.pc = 0 ∧ 2 ≤ q ∨ m.a.pc = 11 ∧ m.a.out = 2 ∧ 1 ≤ q ∨
         m.a.nn = 0 ∧ (m.a.pc = 4 ∧ m.a.i < z ∨ m.a.pc = 5 ∧ m.a.i < z ∨ m.a.pc = 6 ∧ m.a.i < z ∨ m.a.pc = 7 ∧ m.a.i = z) ∧
          3 * (z - m.a.i) + 3 + (if m.a.pc = 5 then (if w (C.base c + 1 + m.a.i) = m.a.cell then -1 else 1) else if m.a.pc = 6 then -2 else 0) ≤ q))) ∨
    m.a.got = true ∧ (m.a.sa = C.base (c + 1) ∧ m.a.sc = c + 1) ∧ w (C.chunk c + 1) = roomOf (classOf z) ∧
      (m.a.pc = 8 ∧ w (C.chunk (c + 1) + 1) = IntKind.u64.wrap (0 + IntKind.u64.wrap (-roomOf (classOf z))) ∧ 3 ≤ q ∨
       w (C.base (c + 1)) = putHead 2 z 0 1 false ∧ (m.a.pc = 9 ∧ w (C.chunk (c + 1) + 1) = IntKind.u64.wrap (0 + IntKind.u64.wrap (-roomOf (classOf z))) ∧ 2 ≤ q ∨ m.a.pc = 10 ∧ w (C.chunk (c + 1) + 1) = 0 ∧ 1 ≤ q))
structure Ddd (C : Cf) (z c : Int) (m : Mv) (w : Int → Int) : Prop where
 sl : w (C.slot 0) = nQ
 lv : ∀ j, 0 ≤ j → j < C.C → w (C.chunk j + 1) = 0
 r : m.a.out = 2 ∧ (m.a.got = false ∨ m.a.got = true ∧ m.a.sa = C.base (c + 1) ∧ w (C.base (c + 1)) = putHead 3 z 0 1 false) ∨ m.a.out = 1 ∧ m.a.got = true ∧ m.a.sa = C.base (c + 1) ∧ w (C.base (c + 1)) = putHead 2 z 0 1 false
end Go.Fl
namespace Go.Fl
open Go
set_option linter.unusedVariables false
set_option linter.unusedSimpArgs false
variable {N : Nm} {A B : Ar} {σ : Mem} {K : Value → Mem → Prop} {C : Cf} {who : Int}
def Lvo (C : Cf) (c : Int) (w : Int → Int) : Prop := ∀ j, 0 ≤ j → j < C.C → j ≠ c → j ≠ c + 1 → w (C.chunk j + 1) = 0
end Go.Fl
namespace Go.Fl
open Go
set_option linter.unusedVariables false
set_option linter.unusedSimpArgs false
variable {N : Nm} {A B : Ar} {σ : Mem} {K : Value → Mem → Prop} {C : Cf} {who : Int}
def bud (C : Cf) (m : Mv) (w : Int → Int) : Int := if (4 ≤ m.a.pc ∧ m.a.pc ≤ 7) ∧ slS (w (C.slot 0)) = 1 then 2 - m.a.nn else 3 - m.a.nn
theorem bud_bd {P : Prop} {z c V st q : Int} {T L : Int → Int} {loc : Bool} {m : Mv} {w : Int → Int} (h : MI P C z c T L V st loc q m w) : 0 ≤ bud C m w ∧ bud C m w ≤ 3 := by
 have hnb := h.nb
 unfold bud
 split
 ·rename_i hp
  rcases h.ph with ⟨_, _, _, ⟨g1, g2, g3, ⟨g4, _⟩ | ⟨g4, _, _, k, g7, _⟩⟩ | ⟨g1, g2, g3, ⟨_, g4, _⟩ | ⟨_, ⟨_, g4, _⟩ | ⟨_, g4, _⟩ | ⟨g5, Vm, _, _, _, g4, _⟩ | ⟨_, g4, _⟩⟩⟩⟩ | ⟨_, _, _, _, g2, _, _, ⟨g4, _⟩ | ⟨_, ⟨g4, _⟩ | ⟨g4, _⟩⟩⟩ <;> omega
 ·omega
theorem MI.bud {P : Prop} {z c V st q : Int} {T L : Int → Int} {loc : Bool} {m : Mv} (g : Geo C z c) (h : MI P C z c T L V st loc q m A.w) (hT : TbM C z c T) (hd : (m.step C who A).1 = false) : bud C (m.step C who A).2.1 (m.step C who A).2.2.w ≤ Go.Fl.bud C m A.w := by
 have e := g.eq
 have ez := e.zb; have ek := e.kb; have er := e.rb; have eb := e.nb; have eW := e.Wb; have eb0 := e.b0; have el := e.l1; have el2 := e.l2; have eC := e.Cb; have eS := e.Sb; have eT := e.Tb; have ec := g.hc; have es := e.s
 have hm := h.mpc
 have hnb := h.nb
 obtain ⟨c1, c4, c3⟩ := hm.a
 have hib := hm.i
 have p3 := hm.p3; have p4 := hm.p4; have p0 := hm.p0
 -- the slot's word is left as it was
 have same : m.a.pc ≠ 3 → m.a.pc ≠ 7 → (m.step C who A).2.2.w (C.slot 0) = A.w (C.slot 0) := fun n3 n7 => by
  by_cases p : m.a.pc = 1
  ·obtain ⟨k, hp⟩ := hm.p1 p
   obtain ⟨⟨x, hx, hxx⟩, _⟩ := hp.step (who := who) g.hC hT.tb
   have e1 : (m.step C who A).2.2 = (m.t.step C who A).2.2 := by
    unfold Mv.step; rw [if_neg (by omega), if_pos p]; (repeat' split) <;> rfl
   have hne : C.slot 0 ≠ x := by
    rcases hx with q | ⟨i, i0, i1, q⟩
    ·omega
    ·have := e.ch i; omega
   rw [e1]
   rcases hxx with q | ⟨v, _, q⟩
   ·rw [q]; rfl
   ·rw [q, store_w]; exact upd_ne _ _ hne
  ·by_cases z0 : m.a.pc = 0
   ·unfold Mv.step; rw [if_pos z0]; (repeat' split) <;> rfl
   ·refine Mv.only ⟨p0.1, p0.2, p⟩ ?_
    have h1 := e.ch c; have h2 := e.ch (c + 1)
    unfold Mv.adr
    rw [c1, c4, e.of]
    rw [if_neg (by omega)]
    by_cases c2 : m.a.pc = 4 ∨ m.a.pc = 5
    ·rw [if_pos c2]; omega
    ·rw [if_neg c2]
     by_cases c3 : m.a.pc = 6
     ·rw [if_pos c3, (p4 (by omega)).1]; omega
     ·rw [if_neg c3]
      by_cases c4 : m.a.pc = 9
      ·rw [if_pos c4, (p4 (by omega)).2]; omega
      ·rw [if_neg c4]
       by_cases c5 : m.a.pc = 10
       ·rw [if_pos c5]; omega
       ·rw [if_neg c5, (p4 (by omega)).1]; omega
 have low : ∀ m' : Mv, ∀ w' : Int → Int, m'.a.nn = m.a.nn → ¬ (4 ≤ m.a.pc ∧ m.a.pc ≤ 7) → Go.Fl.bud C m' w' ≤ Go.Fl.bud C m A.w := fun m' w' q1 q2 => by
  unfold Go.Fl.bud
  rw [if_neg (show ¬ ((4 ≤ m.a.pc ∧ m.a.pc ≤ 7) ∧ slS (A.w (C.slot 0)) = 1) from fun x => q2 x.1), q1]
  split <;> omega
 have mid : ∀ m' : Mv, m'.a.nn = m.a.nn → (4 ≤ m.a.pc ∧ m.a.pc ≤ 6) → (4 ≤ m'.a.pc ∧ m'.a.pc ≤ 7) → (m.step C who A).2.1 = m' → Go.Fl.bud C m' (m.step C who A).2.2.w ≤ Go.Fl.bud C m A.w := fun m' q1 q2 q3 _ => by
  unfold Go.Fl.bud
  rw [same (by omega) (by omega), q1]
  by_cases x : slS (A.w (C.slot 0)) = 1
  ·rw [if_pos ⟨q3, x⟩, if_pos ⟨by omega, x⟩]; omega
  ·rw [if_neg (fun y => x y.2), if_neg (fun y => x y.2)]; omega
 rcases (show m.a.pc = 0 ∨ m.a.pc = 1 ∨ m.a.pc = 2 ∨ m.a.pc = 3 ∨ m.a.pc = 4 ∨ m.a.pc = 5 ∨ m.a.pc = 6 ∨ m.a.pc = 7 ∨ m.a.pc = 8 ∨ m.a.pc = 9 ∨ m.a.pc = 10 ∨ m.a.pc = 11 by omega) with p | p | p | p | p | p | p | p | p | p | p | p
 ·refine low _ _ ?_ (by omega)
  unfold Mv.step; rw [if_pos p]; (repeat' split) <;> rfl
 ·refine low _ _ ?_ (by omega)
  unfold Mv.step; rw [if_neg (by omega), if_pos p]; (repeat' split) <;> rfl
 ·refine low _ _ ?_ (by omega)
  unfold Mv.step; rw [if_neg (by omega), if_neg (by omega), if_pos p]
 ·refine low _ _ ?_ (by omega)
  unfold Mv.step; rw [if_neg (by omega), if_neg (by omega), if_neg (by omega), if_pos p]
 ·refine mid _ ?_ (by omega) ?_ rfl
  ·unfold Mv.step; rw [if_neg (by omega), if_neg (by omega), if_neg (by omega), if_neg (by omega), if_pos p]
  ·unfold Mv.step; rw [if_neg (by omega), if_neg (by omega), if_neg (by omega), if_neg (by omega), if_pos p]; dsimp only; split <;> decide
 ·refine mid _ ?_ (by omega) ?_ rfl
  ·unfold Mv.step; rw [if_neg (by omega), if_neg (by omega), if_neg (by omega), if_neg (by omega), if_neg (by omega), if_pos p]
  ·unfold Mv.step; rw [if_neg (by omega), if_neg (by omega), if_neg (by omega), if_neg (by omega), if_neg (by omega), if_pos p]; dsimp only; split <;> decide
 ·refine mid _ ?_ (by omega) ?_ rfl
  ·unfold Mv.step; rw [if_neg (by omega), if_neg (by omega), if_neg (by omega), if_neg (by omega), if_neg (by omega), if_neg (by omega), if_pos p]
  ·unfold Mv.step; rw [if_neg (by omega), if_neg (by omega), if_neg (by omega), if_neg (by omega), if_neg (by omega), if_neg (by omega), if_pos p]; dsimp only; split <;> decide
 ·-- showing
  have adb : C.base c ≤ 1048575 := by omega
  have key : A.w (C.slot m.a.hs) = m.a.as 2 m.a.addr 0 ∨ A.w (C.slot m.a.hs) ≠ m.a.as 2 m.a.addr 0 ∧ slS (A.w (C.slot 0)) = 1 := by
   by_cases x : A.w (C.slot m.a.hs) = m.a.as 2 m.a.addr 0
   ·exact .inl x
   ·right
    refine ⟨x, ?_⟩
    have hsm := h.sm
    obtain ⟨s1, s2, s3, s4⟩ := sl_put (st := st) (ad := Cur C c loc) (ge := 1) (ve := V) (by have := hsm.sb.1; omega) (by unfold Cur; split <;> omega) (by decide) hsm.vb
    rw [hsm.sl, s1]
    rcases hsm.sb.1 with q | q
    ·exact q
    ·exfalso
     rcases h.ph with ⟨hl, _, _, ⟨g1, _⟩ | ⟨_, _, _, ⟨g1, _⟩ | ⟨_, ⟨g1, _⟩ | ⟨g1, _⟩ | ⟨_, Vm, hw, v0, v1, _, g5, _⟩ | ⟨g1, _⟩⟩⟩⟩ | ⟨hl, g1, _⟩
     ·omega
     ·omega
     ·omega
     ·omega
     ·rcases g5 with ⟨_, g6, _⟩ | ⟨g6, _⟩
      ·apply x
       obtain ⟨t1, t2, t3, t4⟩ := sl_put (st := 1) (ad := C.base c) (ge := 1) (ve := Vm) (by decide) (by omega) (by decide) (by omega)
       have hcu : Cur C c loc = C.base c := by rw [hl]; rfl
       unfold Mo.as
       rw [c4, hsm.sl, hw, t3, t4, c1, q, g6, hcu, Int.add_zero]
      ·omega
     ·omega
     ·omega
  rcases key with x | ⟨x, hs1⟩
  ·have e1 : m.step C who A = (false, { m with a := { m.a with pc := 8 } }, (A.by who).cas (C.slot m.a.hs) (m.a.as 2 m.a.addr 0) (m.a.as 1 m.a.sa 1)) := by
    unfold Mv.step; rw [if_neg (by omega), if_neg (by omega), if_neg (by omega), if_neg (by omega), if_neg (by omega), if_neg (by omega), if_neg (by omega), if_pos p, if_pos x]
   have hs2 : slS (A.w (C.slot 0)) = 2 := by
    rw [c4] at x; rw [x]; unfold Mo.as
    exact (sl_put' (by decide) (by rw [c1]; omega) (by unfold slG; omega)).1
   rw [e1]
   unfold Go.Fl.bud
   rw [if_neg (show ¬ ((4 ≤ m.a.pc ∧ m.a.pc ≤ 7) ∧ slS (A.w (C.slot 0)) = 1) from fun y => by have := y.2; omega), if_neg (fun y => by have q : (8 : Int) ≤ 7 := y.1.2; omega)]
   exact Int.le_refl _
  ·have e1 : (m.step C who A).2.1.a.nn = m.a.nn + 1 ∧ ((m.step C who A).2.1.a.pc = 0 ∨ (m.step C who A).2.1.a.pc = 11) := by
    unfold Mv.step; rw [if_neg (by omega), if_neg (by omega), if_neg (by omega), if_neg (by omega), if_neg (by omega), if_neg (by omega), if_neg (by omega), if_pos p, if_neg x]
    by_cases cR : C.R ≤ m.a.nn + 1
    ·rw [if_pos cR]
     refine ⟨rfl, ?_⟩
     unfold Mo.endm
     dsimp only
     split
     ·exact .inr rfl
     ·exact .inl rfl
    ·rw [if_neg cR]; exact ⟨rfl, .inl rfl⟩
   have hL : Go.Fl.bud C (m.step C who A).2.1 (m.step C who A).2.2.w = 3 - (m.step C who A).2.1.a.nn := by unfold Go.Fl.bud; rw [if_neg (by omega)]
   have hR : Go.Fl.bud C m A.w = 2 - m.a.nn := by unfold Go.Fl.bud; rw [if_pos ⟨by omega, hs1⟩]
   rw [hL, hR, e1.1]
   omega
 ·refine low _ _ ?_ (by omega)
  unfold Mv.step; rw [if_neg (by omega), if_neg (by omega), if_neg (by omega), if_neg (by omega), if_neg (by omega), if_neg (by omega), if_neg (by omega), if_neg (by omega), if_pos p]
 ·refine low _ _ ?_ (by omega)
  unfold Mv.step; rw [if_neg (by omega), if_neg (by omega), if_neg (by omega), if_neg (by omega), if_neg (by omega), if_neg (by omega), if_neg (by omega), if_neg (by omega), if_neg (by omega), if_pos p]
 ·refine low _ _ ?_ (by omega)
  unfold Mv.step; rw [if_neg (by omega), if_neg (by omega), if_neg (by omega), if_neg (by omega), if_neg (by omega), if_neg (by omega), if_neg (by omega), if_neg (by omega), if_neg (by omega), if_neg (by omega), if_pos p]
 ·refine low _ _ ?_ (by omega)
  unfold Mv.step; rw [if_neg (by omega), if_neg (by omega), if_neg (by omega), if_neg (by omega), if_neg (by omega), if_neg (by omega), if_neg (by omega), if_neg (by omega), if_neg (by omega), if_neg (by omega), if_neg (by omega)]
theorem MI.stop {P : Prop} {z c V q : Int} {T L : Int → Int} {m : Mv} {w : Int → Int} (g : Geo C z c) (h : MI P C z c T L V 2 false q m w) :
  MI P C z c T L (V + 1) 1 false (q + (3 * z + 8)) m (upd w (C.slot 0) (putSlot 1 (C.base c) 1 (V + 1))) ∧ Go.Fl.bud C m (upd w (C.slot 0) (putSlot 1 (C.base c) 1 (V + 1))) = Go.Fl.bud C m w - 1 := by
 have e := g.eq
 have ez := e.zb; have ek := e.kb; have er := e.rb; have eb := e.nb; have eW := e.Wb; have eb0 := e.b0; have el := e.l1; have el2 := e.l2; have eC := e.Cb; have eS := e.Sb; have eT := e.Tb; have ec := g.hc; have es := e.s
 have ech1 := e.ch c; have ech2 := e.ch (c + 1)
 have hib := h.ib
 rcases h.ph with ⟨_, hcl, hcn, ⟨q, _⟩ | ⟨g1, g2, g4, ⟨q, _⟩ | ⟨hb1, ⟨q, _⟩ | ⟨q, _⟩ | ⟨g5, Vm, g6, g7, g8, g9, g10, g11⟩ | ⟨q, _⟩⟩⟩⟩ | ⟨q, _⟩
 ·omega
 ·omega
 ·omega
 ·omega
 ·rcases g10 with ⟨_, g10, _, _⟩ | ⟨q, _⟩
  ·obtain ⟨s1, _⟩ := sl_put (st := 1) (ad := C.base c) (ge := 1) (ve := V + 1) (by decide) (by omega) (by decide) (by omega)
   obtain ⟨s2, _⟩ := sl_put (st := 2) (ad := C.base c) (ge := 1) (ve := V) (by decide) (by omega) (by decide) (by omega)
   have hsl := h.sl
   rw [if_neg (by decide)] at hsl
   have pcr : 4 ≤ m.a.pc ∧ m.a.pc ≤ 7 := by omega
   refine ⟨⟨h.con, h.wb, h.cb, hib, h.nb, by omega, by rw [upd_same, if_neg (by decide)], by rw [upd_ne _ _ (by omega)]; exact h.hda, .inl ⟨rfl, ?_, fun x => (hcn x).upd (by omega) (by omega), .inr ⟨g1, g2, e.cw g4 (.inl rfl) ec.1, .inr ⟨by rw [upd_ne _ _ (by omega)]; exact hb1, .inr (.inr (.inl ⟨g5, Vm, g6, g7, g8, g9, .inr ⟨rfl, by omega⟩, ?_⟩))⟩⟩⟩⟩, ?_⟩
   ·exact (hcl.upd (by omega)).st (by omega) fun _ => .inr (by omega)
   ·rw [upd_ne _ _ (by omega), if_neg (show ¬ (1 : Int) = 2 by decide)]
    rw [if_pos (show (2 : Int) = 2 from rfl)] at g11
    omega
   ·unfold Go.Fl.bud
    rw [upd_same, s1, hsl, s2, if_pos ⟨pcr, rfl⟩, if_neg (fun y => by have := y.2; omega)]
    omega
  ·omega
 ·omega
 ·cases q
theorem ClA.laid {z c V st ix v : Int} {L : Int → Int} {w : Int → Int} (h : ClA C z c L V st w) (hv : 0 ≤ v ∧ v ≤ 65535) : ClA C z c (Go.Fl.upd L ix v) V st (Go.Fl.upd w (C.base c + 1 + ix) (putCell v false 0)) := fun x x0 x1 => by
 by_cases e : x = ix
 ·rw [e, upd_same, upd_same]
  exact ⟨ceV_lay (by omega), fun q => by rw [ceF_lay] at q; cases q⟩
 ·rw [upd_ne _ _ e, upd_ne _ _ (by omega)]; exact h x x0 x1
theorem nfz {V x : Int} (h : ceF x = false ∨ ceN x < V) : ¬ Fzd V x := by
 rintro ⟨h1, h2⟩
 rcases h with q | q
 ·rw [h1] at q; cases q
 ·omega
theorem MI.lay {P : Prop} {z c V st q ix v : Int} {T L : Int → Int} {loc : Bool} {m : Mv} {w : Int → Int} (g : Geo C z c) (h : MI P C z c T L V st loc q m w) (hi : 0 ≤ ix ∧ ix < z) (hv : 0 ≤ v ∧ v ≤ 65535)
  (hc : loc = false → ceF (w (C.base c + 1 + ix)) = false ∨ ceN (w (C.base c + 1 + ix)) < V) :
  MI P C z c T (Go.Fl.upd L ix v) V st loc (q + 2) m (Go.Fl.upd w (Cur C c loc + 1 + ix) (putCell v false 0)) ∧ Go.Fl.bud C m (Go.Fl.upd w (Cur C c loc + 1 + ix) (putCell v false 0)) = Go.Fl.bud C m w := by
 have e := g.eq
 have ez := e.zb; have ek := e.kb; have er := e.rb; have eb := e.nb; have eW := e.Wb; have eb0 := e.b0; have el := e.l1; have el2 := e.l2; have eC := e.Cb; have eS := e.Sb; have eT := e.Tb; have ec := g.hc; have es := e.s
 have ech1 := e.ch c; have ech2 := e.ch (c + 1)
 have hib := h.ib
 have cub : C.base c ≤ Cur C c loc ∧ Cur C c loc ≤ C.base (c + 1) := by unfold Cur; split <;> omega
 have cu : Cur C c loc = C.base c ∧ loc = false ∨ Cur C c loc = C.base (c + 1) ∧ loc = true := by unfold Cur; cases loc with | true => exact .inr ⟨rfl, rfl⟩ | false => exact .inl ⟨rfl, rfl⟩
 refine ⟨?_, by unfold Go.Fl.bud; rw [upd_ne _ _ (by omega)]⟩
 refine ⟨h.con, h.wb, h.cb, hib, h.nb, h.vb, by rw [upd_ne _ _ (by omega)]; exact h.sl, by rw [upd_ne _ _ (by omega)]; exact h.hda, ?_⟩
 rcases h.ph with ⟨hl, hcl, hcn, hh⟩ | ⟨hl, g1, g2, g3, g4, g5, g6, hh⟩
 ·have hcu : Cur C c loc = C.base c := by rw [hl]; rfl
  rw [hcu]
  have hcw : ∀ {T'}, Cw C (classOf z) w T' → Cw C (classOf z) (Go.Fl.upd w (C.base c + 1 + ix) (putCell v false 0)) T' := fun hw => e.cw hw (.inr (.inl (by omega))) ec.1
  have hb' : ∀ {k}, w (C.base (c + 1)) = k → Go.Fl.upd w (C.base c + 1 + ix) (putCell v false 0) (C.base (c + 1)) = k := fun hk => by rw [upd_ne _ _ (by omega)]; exact hk
  refine .inl ⟨hl, hcl.laid hv, fun x => (hcn x).upd (by omega) (by omega), ?_⟩
  rcases hh with ⟨a1, a2, a3, ⟨a4, a5, a6⟩ | ⟨a4, a5, a6, k, a7, a8, a9, a10⟩⟩ | ⟨a1, a2, a3, ⟨a4, a5, a6, a7, a8, a9⟩ | ⟨a4, hh⟩⟩
  ·exact .inl ⟨a1, a2, a3, .inl ⟨a4, hcw a5, by omega⟩⟩
  ·exact .inl ⟨a1, a2, a3, .inr ⟨a4, a5, a6, k, a7.keep (e.cw Cw.refl (.inr (.inl (by omega))) ec.1), a8, by omega, a10⟩⟩
  ·exact .inr ⟨a1, a2, hcw a3, .inl ⟨a4, a5, a6, a7, a8, by omega⟩⟩
  ·refine .inr ⟨a1, a2, hcw a3, .inr ⟨hb' a4, ?_⟩⟩
   rcases hh with ⟨b1, b2, b3, b4, b5, b6⟩ | ⟨b1, b2, b3, b4⟩ | ⟨b1, Vm, b2, b3, b4, b5, b6, b7⟩ | ⟨b1, b2, b3, b4⟩
   ·exact .inl ⟨b1, b2, b3, b4, b5, by omega⟩
   ·exact .inr (.inl ⟨b1, b2, b3, by omega⟩)
   ·refine .inr (.inr (.inl ⟨b1, Vm, b2, b3, b4, b5, ?_, ?_⟩))
    ·rcases b6 with ⟨d1, d2, d3, d4⟩ | d
     ·have nf := nfz (hc hl)
      refine .inl ⟨d1, d2, fun x x0 x1 => ?_, fun p => ?_⟩
      ·obtain ⟨f1, f2⟩ := d3 x x0 x1
       have ne : x ≠ ix := fun q => by rw [q] at f1; exact nf f1
       rw [upd_ne _ _ (by omega), upd_ne _ _ (by omega), upd_ne _ _ ne]
       exact ⟨f1, f2⟩
      ·obtain ⟨f1, f2⟩ := d4 p
       have ne : m.a.i ≠ ix := fun q => by rw [q] at f1; exact nf f1
       rw [upd_ne _ _ (by omega), upd_ne _ _ ne]
       exact ⟨f1, f2⟩
     ·exact .inr d
    ·have hA : ∀ (X Y : Prop) [Decidable X] [Decidable Y], (if Y then (-1 : Int) else 1) ≤ (if X then (-1 : Int) else 1) + 2 := fun X Y _ _ => by split <;> split <;> omega
     by_cases p5 : m.a.pc = 5
     ·rw [if_pos p5] at b7 ⊢
      have := hA (w (C.base c + 1 + m.a.i) = m.a.cell) (Go.Fl.upd w (C.base c + 1 + ix) (putCell v false 0) (C.base c + 1 + m.a.i) = m.a.cell)
      omega
     ·rw [if_neg p5] at b7 ⊢
      omega
   ·exact .inr (.inr (.inr ⟨b1, b2, b3, by omega⟩))
 ·have hcu : Cur C c loc = C.base (c + 1) := by rw [hl]; rfl
  rw [hcu]
  refine .inr ⟨hl, g1, g2, g3, g4, e.cw g5 (.inr (.inl (by omega))) ec.1, fun x x0 x1 => ?_, ?_⟩
  ·obtain ⟨f1, f2, f3, f4⟩ := g6 x x0 x1
   rw [upd_ne w _ (by omega)]
   refine ⟨f1, ?_⟩
   by_cases ex : x = ix
   ·rw [ex, upd_same, upd_same, putCell_lay (by omega)]; exact ⟨rfl, by omega, by omega⟩
   ·rw [upd_ne _ _ (by omega), upd_ne _ _ ex]; exact ⟨f2, f3, f4⟩
  ·rcases hh with ⟨b1, b2, b3, b4⟩ | ⟨b1, ⟨b2, b3, b4⟩ | ⟨b2, b3, b4⟩⟩
   ·exact .inl ⟨b1, by rw [upd_ne _ _ (by omega)]; exact b2, fun x => (b3 x).upd (by omega) (by omega), by omega⟩
   ·exact .inr ⟨by rw [upd_ne _ _ (by omega)]; exact b1, .inl ⟨b2, fun x => (b3 x).upd (by omega) (by omega), by omega⟩⟩
   ·exact .inr ⟨by rw [upd_ne _ _ (by omega)]; exact b1, .inr ⟨b2, fun x => (b3 x).upd (by omega) (by omega), by omega⟩⟩
theorem MD.lay {P : Prop} {z c V ix v : Int} {T L : Int → Int} {loc : Bool} {m : Mv} {w : Int → Int} (g : Geo C z c) (h : MD P C z c T L V loc m w) (hi : 0 ≤ ix ∧ ix < z) (hv : 0 ≤ v ∧ v ≤ 65535) : MD P C z c T (Go.Fl.upd L ix v) V loc m (Go.Fl.upd w (Cur C c loc + 1 + ix) (putCell v false 0)) := by
 have e := g.eq
 have ez := e.zb; have ek := e.kb; have er := e.rb; have eb := e.nb; have eW := e.Wb; have eb0 := e.b0; have el := e.l1; have el2 := e.l2; have eC := e.Cb; have eS := e.Sb; have eT := e.Tb; have ec := g.hc; have es := e.s
 have ech1 := e.ch c; have ech2 := e.ch (c + 1)
 have cub : C.base c ≤ Cur C c loc ∧ Cur C c loc ≤ C.base (c + 1) := by unfold Cur; split <;> omega
 refine ⟨h.con, h.vb, by rw [upd_ne _ _ (by omega)]; exact h.sl, by rw [upd_ne _ _ (by omega)]; exact h.hda, ?_⟩
 rcases h.r with ⟨hl, g1, g2, g3, g4, g5, g6, g7, g8⟩ | ⟨hl, g1, g2⟩
 ·have hcu : Cur C c loc = C.base (c + 1) := by rw [hl]; rfl
  rw [hcu]
  refine .inl ⟨hl, g1, g2, g3, g4, e.cw g5 (.inr (.inl (by omega))) ec.1, fun x x0 x1 => ?_, by rw [upd_ne _ _ (by omega)]; exact g7, fun x => (g8 x).upd (by omega) (by omega)⟩
  obtain ⟨f1, f2, f3, f4⟩ := g6 x x0 x1
  rw [upd_ne w _ (by omega)]
  refine ⟨f1, ?_⟩
  by_cases ex : x = ix
  ·rw [ex, upd_same, upd_same, putCell_lay (by omega)]; exact ⟨rfl, by omega, by omega⟩
  ·rw [upd_ne _ _ (by omega), upd_ne _ _ ex]; exact ⟨f2, f3, f4⟩
 ·have hcu : Cur C c loc = C.base c := by rw [hl]; rfl
  rw [hcu]
  exact .inr ⟨hl, g1, g2.laid hv⟩
theorem MD.where {P : Prop} {z c V : Int} {T L : Int → Int} {loc : Bool} {m : Mv} {w : Int → Int} (g : Geo C z c) (h : MD P C z c T L V loc m w) :
  slS (w (C.slot 0)) = 1 ∧ slA (w (C.slot 0)) = Cur C c loc ∧ (m.a.out = 1 ∧ loc = true ∨ m.a.out = 3 ∧ loc = false) := by
 have e := g.eq
 have eb := e.nb; have eW := e.Wb; have eb0 := e.b0; have el := e.l1; have el2 := e.l2; have eC := e.Cb; have eS := e.Sb; have eT := e.Tb
 obtain ⟨s1, s2, s3, s4⟩ := sl_put (st := 1) (ad := Cur C c loc) (ge := 1) (ve := V) (by decide) (by unfold Cur; split <;> omega) (by decide) h.vb
 have hsl : w (C.slot 0) = putSlot 1 (Cur C c loc) 1 V := h.sl
 rw [hsl]
 refine ⟨s1, s2, ?_⟩
 rcases h.r with ⟨hl, g1, _⟩ | ⟨hl, g1, _⟩
 ·exact .inl ⟨g1, hl⟩
 ·exact .inr ⟨g1, hl⟩
end Go.Fl
namespace Go.Fl
open Go
set_option linter.unusedVariables false
set_option linter.unusedSimpArgs false
variable {N : Nm} {A B : Ar} {σ : Mem} {K : Value → Mem → Prop} {C : Cf} {who : Int}
theorem Bgn.zero {z c V : Int} {f : Int → Int} (h : Bgn C z c V (valW f 0) A) : Bgn C z c V (fun _ => 0) A :=
 ⟨h.sl, h.hd, fun x x0 x1 => by have := h.cl x x0 x1; rw [valW_none x0] at this; exact this, h.o, h.ev, h.ch, h.ok, h.n⟩
structure Rq (C : Cf) (z c : Int) (loc : Bool) (ix bb : Int) (A0 : Ar) (k : Int) (m : Ak) (A : Ar) : Prop where
 w : A.w = A0.w
 n : A.n = A0.n
 ok : A.ok (bb + k)
 lg : Lg C 65536 false 1 ix 0 0 m
 p : k = 0 ∧ m.a.pc = 0 ∨ m.a.w = A0.w (C.slot 0) ∧ (k = 1 ∧ m.a.pc = 1 ∨ k = 2 ∧ m.a.pc = 2 ∨ k = 3 ∧ m.a.pc = 6 ∧ m.a.cell = A0.w (Cur C c loc + 1 + ix))
structure Smr (C : Cf) (z c V st : Int) (L : Int → Int) (loc : Bool) (A : Ar) : Prop where
 p : slS (A.w (C.slot 0)) = st ∧ slA (A.w (C.slot 0)) = Cur C c loc ∧ slG (A.w (C.slot 0)) = 1 ∧ slV (A.w (C.slot 0)) = V
 lv : lives (A.w (C.slot 0)) 1
 hd : hdO (A.w (Cur C c loc)) = false ∧ hdS (A.w (Cur C c loc)) = z
 ab : C.base 0 ≤ Cur C c loc ∧ Cur C c loc + z < C.len
 cl : ∀ x, 0 ≤ x → x < z → ceV (A.w (Cur C c loc + 1 + x)) = L x ∧ (st = 1 → ceF (A.w (Cur C c loc + 1 + x)) = false ∨ ceN (A.w (Cur C c loc + 1 + x)) < V)
theorem Smv.r {z c V st : Int} {L : Int → Int} {loc : Bool} (g : Geo C z c) (h : Smv C z c L V st loc A.w) : Smr C z c V st L loc A := by
 have e := g.eq
 have ez := e.zb; have eb := e.nb; have eW := e.Wb; have eb0 := e.b0; have el := e.l1; have el2 := e.l2; have eC := e.Cb; have eS := e.Sb; have eT := e.Tb; have ec := g.hc
 have cu : Cur C c loc = C.base c ∧ loc = false ∨ Cur C c loc = C.base (c + 1) ∧ loc = true := by unfold Cur; cases loc with | true => exact .inr ⟨rfl, rfl⟩ | false => exact .inl ⟨rfl, rfl⟩
 obtain ⟨p1, p2, p3, p4⟩ := sl_put (st := st) (ad := Cur C c loc) (ge := 1) (ve := V) (by have := h.sb.1; omega) (by rcases cu with ⟨q, _⟩ | ⟨q, _⟩ <;> omega) (by decide) h.vb
 have hsl := h.sl
 obtain ⟨k1, k2, k3, k4, k5⟩ := hd_put (k := 2) (s := z) (t := 0) (g := 1) (o := false) (by decide) (by omega) (by decide) (by decide)
 refine ⟨by rw [hsl]; exact ⟨p1, p2, p3, p4⟩, ⟨by rw [hsl, p1]; have := h.sb.1; omega, by rw [hsl, p3]⟩, ?_, by rcases cu with ⟨q, _⟩ | ⟨q, _⟩ <;> omega, fun x x0 x1 => ?_⟩
 ·rcases cu with ⟨q, _⟩ | ⟨q, ql⟩
  ·rw [q, h.hda]; exact ⟨k5, k2⟩
  ·obtain ⟨⟨k, kb, hk⟩, _⟩ := h.lt ql
   obtain ⟨j1, j2, j3, j4, j5⟩ := hd_put (k := k) (s := z) (t := 0) (g := 1) (o := false) kb (by omega) (by decide) (by decide)
   rw [q, hk]; exact ⟨j5, j2⟩
 ·rcases cu with ⟨q, ql⟩ | ⟨q, ql⟩
  ·obtain ⟨h1, h2⟩ := h.lf ql x x0 x1
   rw [q]
   refine ⟨h1, fun hs => ?_⟩
   cases hf : ceF (A.w (C.base c + 1 + x)) with
   | false => exact .inl rfl
   | true => exact .inr ((h2 hf).2 hs)
  ·obtain ⟨_, hc⟩ := h.lt ql
   obtain ⟨_, f2, f3, f4⟩ := hc x x0 x1
   rw [q, f2]
   exact ⟨by unfold ceV; omega, fun _ => .inl (decide_eq_false (by omega))⟩
theorem c_readS (hN : N.ok) (hA : isA N A σ) {z c V st i bb : Int} {L : Int → Int} {loc : Bool} (g : Geo C z c) (hs : Smv C z c L V st loc A.w) (hi : 0 ≤ i ∧ i < z) (ok : A.ok bb) (hb : bb < 2305843009213693952) (hl : C.len ≤ A.n) (hb2 : (A.n : Int) ≤ 200000000)
  (hk : ∀ oH oS A' τ, A'.w = A.w → A'.n = A.n → A'.ok (bb + 4) → isA N A' τ → Keep N.l σ τ → K (.agg #[.int .i64 0, .int .u64 oH, .int .i64 (L i), .int .i64 oS]) τ) :
  s_ba [N.env C who, .int .u64 65536, .int .i64 i] K σ := by
 have hC := g.hC
 have hS := hC.S
 have b3 : ∀ (x : Int) (K : Value → Prop), xF (fBuild [(0, 1), (1, 1), (2, 1), (3, 1), (4, 1)] [.int .i64 0, .int .u64 0, .int .i64 0, .int .i64 0, .int .i64 0] [0, 1, 2]) [.int .i64 1, .int .u64 65536, .int .i64 x] K = K (.agg #[.int .i64 1, .int .u64 65536, .int .i64 x, .int .i64 0, .int .i64 0]) := fun _ K => nr rfl
 have gU : ∀ {k : Nat} {x y z w : Int}, gStore 4 [.pointer (some ⟨k, 0, some 0⟩), .agg #[.int .i64 x, .int .u64 y, .int .i64 z, .int .i64 w]] [.int .i64 0, .int .u64 0, .int .i64 0, .int .i64 0] = some [.int .i64 x, .int .u64 y, .int .i64 z, .int .i64 w] := fun {_ _ _ _ _} => rfl
 simp only [s_ba, w_ba, b3, ruS, ruL, ruE, Nat.reduceAdd, reduceIte, Int.reduceLT, Int.reduceLE, Int.reduceEq, Int.reduceNeg, Int.reduceAdd, Int.reduceSub, Nat.reduceLeDiff, Nat.reduceLT]
 have hr := hs.r g
 refine c_Acc hN hC hA (Rq C z c loc i bb A) (fun m A' => (m.a.oE = 0 ∧ m.a.oV = L i) ∧ A'.w = A.w ∧ A'.n = A.n ∧ A'.ok (bb + 4)) ⟨rfl, rfl, by simpa using ok, Lg.new hC, .inl ⟨rfl, rfl⟩⟩ (fun k m A' k0 k1 h => ?_) (fun m A' h => ?_) (fun m A' τ hD hA' hK => ?_)
 ·have ew := h.w
  have hn := h.n
  have hsb := hr.p
  have hpw : m.a.pc ≠ 0 → m.a.w = A.w (C.slot 0) := fun hp => by
   rcases h.p with ⟨_, q⟩ | ⟨q, _⟩
   ·exact absurd q hp
   ·exact q
  have hE : LgE C 65536 false z i A' m := by
   refine ⟨by decide, h65.2.2, by rw [h65.1]; omega, fun _ => by rw [h65.1, ew, hsb.1]; have := hs.sb.1; omega, hi, fun hp => ?_, fun hp => ?_, by omega, by omega⟩
   ·rw [hpw (by omega), ew, hsb.2.1]; exact hr.hd
   ·rw [hpw hp, hsb.2.1]; exact hr.ab
  obtain ⟨hf, hq⟩ := h.lg.step (who := who) hC hE h.ok (by omega)
  have ok1 : ∀ x, ((A'.by who).load x).ok (bb + (k + 1)) := fun x => by
   rw [show bb + (k + 1) = bb + k + 1 by omega]
   exact (aft_load (who := who) (A := A') (a := x) h.ok (by omega)).ok (by decide) h.ok h.ok.w
  refine ⟨hf, h.ok.w, by omega, ?_⟩
  generalize m.step C who A' = r at hq ⊢
  obtain ⟨d, m', A2⟩ := r
  dsimp only at hq ⊢
  cases hq with
  | see hp hlv lg pc ew' _ =>
   rw [if_neg (by decide)]
   exact ⟨ew, hn, ok1 _, lg, .inr ⟨by rw [ew', h65.1, ew], .inl ⟨by rcases h.p with ⟨q, _⟩ | ⟨_, ⟨_, q⟩ | ⟨_, q⟩ | ⟨_, q, _⟩⟩ <;> omega, pc⟩⟩⟩
  | gone hp hl' => rw [h65.1, h65.2.1, ew] at hl'; exact absurd hr.lv hl'
  | head hp lg pc ew' =>
   rw [if_neg (by decide)]
   exact ⟨ew, hn, ok1 _, lg, .inr ⟨by rw [ew', hpw (by omega)], .inr (.inl ⟨by rcases h.p with ⟨_, q⟩ | ⟨_, ⟨q, _⟩ | ⟨_, q⟩ | ⟨_, q, _⟩⟩ <;> omega, pc⟩)⟩⟩
  | load hp lg ew' ec _ hh =>
   rw [if_neg (by decide)]
   have pc6 : m'.a.pc = 6 := by
    rcases hh with ⟨q, _⟩ | ⟨q, _⟩
    ·exact q
    ·exact absurd (.inl rfl) q
   refine ⟨ew, hn, ok1 _, lg, .inr ⟨by rw [ew', hpw (by omega)], .inr (.inr ⟨by rcases h.p with ⟨_, q⟩ | ⟨_, ⟨_, q⟩ | ⟨q, _⟩ | ⟨_, q, _⟩⟩ <;> omega, pc6, ?_⟩)⟩⟩
   rw [ec, hpw (by omega), hsb.2.1, ew]
  | stop hp =>
   rcases h.p with ⟨_, q⟩ | ⟨_, ⟨_, q⟩ | ⟨_, q⟩ | ⟨_, q, _⟩⟩ <;> omega
  | lay hp =>
   rcases h.p with ⟨_, q⟩ | ⟨_, ⟨_, q⟩ | ⟨_, q⟩ | ⟨_, q, _⟩⟩ <;> omega
  | again hp =>
   rcases h.p with ⟨_, q⟩ | ⟨_, ⟨_, q⟩ | ⟨_, q⟩ | ⟨_, q, _⟩⟩ <;> omega
  | look hp _ _ _ ho =>
   rw [if_pos rfl]
   have k3 : k = 3 ∧ m.a.cell = A.w (Cur C c loc + 1 + i) := by
    rcases h.p with ⟨_, q⟩ | ⟨_, ⟨_, q⟩ | ⟨_, q⟩ | ⟨q1, _, q2⟩⟩
    ·omega
    ·omega
    ·omega
    ·exact ⟨q1, q2⟩
   refine ⟨⟨by rw [ho.1, if_neg (by decide)], by rw [ho.2.2.1, k3.2]; exact (hr.cl i hi.1 hi.2).1⟩, ew, hn, ?_⟩
   have := ok1 (C.slot (hdSl 65536))
   rw [show bb + 4 = bb + (k + 1) by omega]; exact this
  | else' hp _ ha =>
   exfalso
   apply ha
   rw [h65.1, hpw (by omega), ew]
 ·rcases h.p with ⟨q, _⟩ | ⟨_, ⟨q, _⟩ | ⟨q, _⟩ | ⟨q, _⟩⟩ <;> omega
 ·obtain ⟨⟨e1, e2⟩, w1, n1, o1⟩ := hD
  simp only [gU, sub4, e1, e2, ruS, ruL, ruE, Nat.reduceAdd, reduceIte, Int.reduceLT, Int.reduceLE, Int.reduceEq, Int.reduceNeg, Int.reduceAdd, Int.reduceSub, Nat.reduceLeDiff, Nat.reduceLT]
  exact hk _ _ A' τ w1 n1 o1 hA' hK
def rkW (C : Cf) (ix : Int) (m : Ak) (w : Int → Int) : Int :=
 if m.a.pc = 0 then 4 else if m.a.pc = 1 then (if m.a.w = w (C.slot 0) then 3 else 8) else if m.a.pc = 2 then (if m.a.w = w (C.slot 0) then 2 else 7) else if m.a.pc = 5 then (if w (slA m.a.w + 1 + ix) = m.a.cell then 1 else 5) else 5
theorem rkW_bd {ix : Int} {m : Ak} {w : Int → Int} : 1 ≤ rkW C ix m w ∧ rkW C ix m w ≤ 8 := by unfold rkW; (repeat' split) <;> omega
theorem Amv.quiet {z c V ix v bb : Int} {L : Int → Int} {loc : Bool} {m : Ak} (g : Geo C z c) (hs : Smv C z c L V 1 loc A.w) (h : Amv C z c L V loc 2 ix v 0 m) (hi : 0 ≤ ix ∧ ix < z) (ok : A.ok bb) (hb : bb < 4611686018427387904) (hn : C.len ≤ A.n) (hn2 : (A.n : Int) ≤ 200000000)
  (hd : (m.step C who A).1 = false) : rkW C ix (m.step C who A).2.1 (m.step C who A).2.2.w ≤ rkW C ix m A.w - 1 := by
 have hC := g.hC
 have hS := hC.S
 have hr := hs.r g
 have hE : LgE C 65536 false z ix A m := by
  have e := g.eq
  have ez := e.zb; have eb := e.nb; have eW := e.Wb; have eb0 := e.b0; have el := e.l1
  obtain ⟨k1, k2, k3, k4, k5⟩ := hd_put (k := 2) (s := z) (t := 0) (g := 1) (o := false) (by decide) (by omega) (by decide) (by decide)
  refine ⟨by decide, h65.2.2, by rw [h65.1]; omega, fun _ => by rw [h65.1, hr.p.1]; decide, hi, fun hp => ?_, fun hp => ?_, hn, hn2⟩
  ·obtain ⟨_, ⟨_, q, _⟩ | ⟨q1, _, q, _⟩⟩ := (h.sw (by omega)).ad g hs.vb
   ·rw [q, hs.hda]; exact ⟨k5, k2⟩
   ·obtain ⟨⟨k, kb, q2⟩, _⟩ := hs.lt q1
    obtain ⟨j1, j2, j3, j4, j5⟩ := hd_put (k := k) (s := z) (t := 0) (g := 1) (o := false) kb (by omega) (by decide) (by decide)
    rw [q, q2]; exact ⟨j5, j2⟩
  ·obtain ⟨_, ⟨_, q, _⟩ | ⟨q1, _, q, _⟩⟩ := (h.sw hp).ad g hs.vb <;> omega
 obtain ⟨_, hq⟩ := h.lg.step (who := who) hC hE ok hb
 have nlk : ∀ x, ¬ Lk 2 0 x := fun x => by rintro (q | ⟨q, _⟩) <;> omega
 have lw : ∀ x, ((A.by who).load x).w = A.w := fun _ => rfl
 generalize m.step C who A = r at hq hd ⊢
 obtain ⟨d, m', A2⟩ := r
 dsimp only at hq hd ⊢
 cases hq with
 | see hp hl lg pc ew _ =>
  rw [lw]; unfold rkW
  rw [if_pos hp, if_neg (by omega), if_pos pc, if_pos (by rw [ew, h65.1])]; omega
 | gone => cases hd
 | head hp lg pc ew =>
  rw [lw]; unfold rkW
  rw [if_neg (show ¬ m.a.pc = 0 by omega), if_pos hp, if_neg (show ¬ m'.a.pc = 0 by omega), if_neg (show ¬ m'.a.pc = 1 by omega), if_pos pc, ew]
  split <;> omega
 | load hp lg ew ec _ hh =>
  rw [lw]
  have hm : rkW C ix m A.w = if m.a.w = A.w (C.slot 0) then 2 else 7 := by
   unfold rkW; rw [if_neg (by omega), if_neg (by omega), if_pos hp]
  rw [hm]
  rcases hh with ⟨_, q⟩ | ⟨_, ⟨p5, _⟩ | ⟨hc, hh⟩⟩
  ·exact absurd q (nlk _)
  ·have : rkW C ix m' A.w = 1 := by
    unfold rkW; rw [if_neg (by omega), if_neg (by omega), if_neg (by omega), if_pos p5, if_pos (by rw [ew, ec])]
   rw [this]; split <;> omega
  ·have nf : m.a.w ≠ A.w (C.slot 0) := fun q => by
    apply hc
    rw [ec, q, hr.p.2.1, hr.p.2.2.2]
    exact (hr.cl ix hi.1 hi.2).2 rfl
   rw [if_neg nf]
   rcases hh with ⟨p3, _⟩ | ⟨p0, _⟩
   ·unfold rkW; rw [if_neg (by omega), if_neg (by omega), if_neg (by omega), if_neg (by omega)]; omega
   ·unfold rkW; rw [if_pos p0]; omega
 | stop hp _ lg pc =>
  have : rkW C ix m A.w = 5 := by unfold rkW; rw [if_neg (by omega), if_neg (by omega), if_neg (by omega), if_neg (by omega)]
  rw [this]; unfold rkW; rw [if_pos pc]; omega
 | lay => cases hd
 | again hp hne lg pc =>
  have : rkW C ix m A.w = 5 := by unfold rkW; rw [if_neg (by omega), if_neg (by omega), if_neg (by omega), if_pos hp, if_neg hne]
  rw [this]; unfold rkW; rw [if_pos pc]; omega
 | look => cases hd
 | else' hp hl ha lg pc =>
  obtain ⟨_, _, _, _, hh⟩ := h.lg
  rcases hh with q | ⟨_, q | q | ⟨q, _⟩ | ⟨q, _⟩ | ⟨_, q⟩⟩
  ·omega
  ·omega
  ·omega
  ·omega
  ·omega
  ·exact absurd q (nlk _)
end Go.Fl
namespace Go.Fl
open Go
set_option linter.unusedVariables false
set_option linter.unusedSimpArgs false
variable {N : Nm} {A B : Ar} {σ : Mem} {K : Value → Mem → Prop} {C : Cf} {who : Int}
structure Ws (N : Nm) (C : Cf) (σ0 : Mem) (z : Int) (T g : Int → Int) (n1 p b : Nat) (q at' : Int) (md : Bool) (O : List Nat) (m : Mv) (A : Ar) (a : Rdr) (L : Int → Int) (τ : Mem) (bb : Int) : Prop where
 n : A.n = C.len.toNat
 ok : A.ok bb
 is : isA N A τ
 pr : PrB N σ0 p O m a b ⟨cells .i64 z.toNat L, true⟩ τ
 ab : 0 ≤ at' ∧ at' ≤ 60
 s : ∃ V st loc, Smv C z 0 L V st loc A.w ∧ (∀ qa Q ak, a = some (qa, Q, ak) → (at' < n1 ∧ at' < 60) ∧ Amv C z 0 L V loc 2 (at'.tmod z) (g at' % 65536) 0 ak) ∧
  (md = true ∧ st = 1 ∧ MD False C z 0 T L V loc m A.w ∨ md = false ∧ MI False C z 0 T L V st loc q m A.w ∧ q ≤ 88 + 2 * at' + 56 * (3 - bud C m A.w))
theorem Ws.mono {σ0 τ : Mem} {z q at' bb b2 : Int} {T g L : Int → Int} {n1 p b : Nat} {md : Bool} {O : List Nat} {m : Mv} {a : Rdr} (h : Ws N C σ0 z T g n1 p b q at' md O m A a L τ bb) (hb : bb ≤ b2) : Ws N C σ0 z T g n1 p b q at' md O m A a L τ b2 :=
 ⟨h.n, ok_mono h.ok hb, h.is, h.pr, h.ab, h.s⟩
theorem Ws.mv {σ0 τ : Mem} {z q at' bb : Int} {T g L : Int → Int} {n1 p b : Nat} {O : List Nat} {m : Mv} {a : Rdr} (ge : Geo C z 0) (hf : N.fr σ0) (hT : TbM C z 0 T) (h : Ws N C σ0 z T g n1 p b q at' false O m A a L τ bb) (hb : bb < 4611686018427387904) :
  m.fit C A ∧ 1 ≤ q ∧ q ≤ 376 ∧ ∀ O' τ', (∀ i ∈ O', i ∈ O ∨ τ.get i = none) → isA N (m.step C 0 A).2.2 τ' → MOb N p O' (m.step C 0 A).2.1 τ' → Keep (O ++ N.l) τ τ' →
   ∃ O2, Ws N C σ0 z T g n1 p b (q - 1) at' (m.step C 0 A).1 O2 (m.step C 0 A).2.1 (m.step C 0 A).2.2 a L τ' (bb + 1) := by
 have hln := len_bd ge.hC
 have hn := h.n
 obtain ⟨V, st, loc, hsm, ham, ⟨q1, _⟩ | ⟨_, hmi, hq⟩⟩ := h.s
 ·cases q1
 have hbd := bud_bd hmi
 have hab := h.ab
 refine ⟨hmi.fit ge hT (by omega) (by omega), hmi.q1 ge, by omega, fun O' τ' hO hA hob hk => ?_⟩
 obtain ⟨O2, hpr⟩ := h.pr.mstep hf hO hob hk
 obtain ⟨t, hs⟩ := hmi.step (who := 0) ge hT h.ok hb
 refine ⟨O2, t.n.trans hn, t.ok _ h.ok hb, hA, hpr, hab, ?_⟩
 rcases hs with ⟨d, V', st', loc', h1, h2, _⟩ | ⟨d, h1, _⟩
 ·have hbud := hmi.bud (who := 0) ge hT d
  exact ⟨V', st', loc', h1.sm, fun qa Q ak e => ⟨(ham qa Q ak e).1, (ham qa Q ak e).2.mv ge hsm.vb h2⟩, .inr ⟨d, h1, by omega⟩⟩
 ·exact ⟨V, 1, loc, h1.sm, ham, .inl ⟨d, rfl, h1⟩⟩
theorem Ws.acc {σ0 τ : Mem} {z q at' bb : Int} {T g L : Int → Int} {n1 p b qa : Nat} {md : Bool} {O Q : List Nat} {m : Mv} {ak : Ak} (ge : Geo C z 0) (hf : N.fr σ0) (h : Ws N C σ0 z T g n1 p b q at' md O m A (some (qa, Q, ak)) L τ bb) (hb : bb < 4611686018427387904) :
    AOb N qa Q ak τ ∧ ak.fit C A ∧ (at' < n1 ∧ at' < 60) ∧ ∀ Q' τ', (∀ i ∈ Q', i ∈ Q ∨ τ.get i = none) → isA N (ak.step C 0 A).2.2 τ' → AOb N qa Q' (ak.step C 0 A).2.1 τ' → Keep (Q ++ N.l) τ τ' →
      (∃ Q2, PrB N σ0 p O m (some (qa, Q2, (ak.step C 0 A).2.1)) b ⟨cells .i64 z.toNat L, true⟩ τ') ∧
      ((ak.step C 0 A).1 = false ∧ (∃ Q2 q2, Ws N C σ0 z T g n1 p b q2 at' md O m (ak.step C 0 A).2.2 (some (qa, Q2, (ak.step C 0 A).2.1)) L τ' (bb + 1)) ∧ (md = true → rkW C (at'.tmod z) (ak.step C 0 A).2.1 (ak.step C 0 A).2.2.w ≤ rkW C (at'.tmod z) ak A.w - 1) ∨
       (ak.step C 0 A).1 = true ∧ (ak.step C 0 A).2.1.a.oE = 0 ∧ (ak.step C 0 A).2.1.a.oV = L (at'.tmod z) ∧
        ∀ τ'', PrB N σ0 p O m none b ⟨cells .i64 z.toNat (upd L (at'.tmod z) (g at' % 65536)), true⟩ τ'' → isA N (ak.step C 0 A).2.2 τ'' → ∃ q2, Ws N C σ0 z T g n1 p b q2 (at' + 1) md O m (ak.step C 0 A).2.2 none (upd L (at'.tmod z) (g at' % 65536)) τ'' (bb + 1)) := by
  have hC := ge.hC
  have hln := len_bd hC
  have hn := h.n
  have hab := h.ab
  have hzz := ge.eq.zb
  obtain ⟨V, st, loc, hsm, ham, hmv⟩ := h.s
  obtain ⟨hat, hai⟩ := ham qa Q ak rfl
  have hix : 0 ≤ at'.tmod z ∧ at'.tmod z < z := ⟨Int.tmod_nonneg _ hab.1, Int.tmod_lt_of_pos _ (by omega)⟩
  have hv : 0 ≤ g at' % 65536 ∧ g at' % 65536 ≤ 65535 := by omega
  obtain ⟨hfit, hn3, hok3, hr⟩ := hai.step (who := 0) ge hsm hix (.inr rfl) h.ok hb (by omega) (by omega)
  obtain ⟨ha1, _, _⟩ := h.pr.pr.ao qa Q ak rfl
  refine ⟨ha1, hfit, hat, fun Q' τ' hO hA hob hk => ?_⟩
  obtain ⟨Q2, hpr⟩ := h.pr.astep hf hO hob hk
  refine ⟨⟨Q2, hpr⟩, ?_⟩
  have hquiet : md = true → (ak.step C 0 A).1 = false → rkW C (at'.tmod z) (ak.step C 0 A).2.1 (ak.step C 0 A).2.2.w ≤ rkW C (at'.tmod z) ak A.w - 1 := fun hmd hd => by
    rcases hmv with ⟨_, q2, hmd'⟩ | ⟨q1, _⟩
    · subst q2
      exact Amv.quiet ge hsm hai hix h.ok hb (by omega) (by omega) hd
    · rw [hmd] at q1; cases q1
  generalize ak.step C 0 A = r at *
  obtain ⟨d, m', A3⟩ := r
  dsimp only at *
  cases hr with
  | go h1 ew =>
    refine .inl ⟨rfl, ⟨Q2, q, hn3.trans hn, hok3, hA, hpr, hab, V, st, loc, by rw [ew]; exact hsm, fun qb Qb kb e => by cases e; exact ⟨hat, h1⟩, by rw [ew]; exact hmv⟩, fun x => hquiet x rfl⟩
  | stop _ hl hst h1 ew =>
    subst hl
    subst hst
    rcases hmv with ⟨_, q2, _⟩ | ⟨hmd, hmi, hq⟩
    · omega
    · obtain ⟨m1, m2⟩ := hmi.stop ge
      have m1' := m1.mono (q' := q + 56) (by omega)
      refine .inl ⟨rfl, ⟨Q2, q + 56, hn3.trans hn, hok3, hA, hpr, hab, V + 1, 1, false, by rw [ew]; exact m1'.sm, fun qb Qb kb e => by cases e; exact ⟨hat, h1⟩, .inr ⟨hmd, by rw [ew]; exact m1', by rw [ew, m2]; omega⟩⟩, fun x => hquiet x rfl⟩
  | read h1 => omega
  | lay _ oe ov hc ew =>
    refine .inr ⟨rfl, oe, ov, fun τ'' hpr2 hA2 => ?_⟩
    rcases hmv with ⟨hmd, hst, hD⟩ | ⟨hmd, hmi, hq⟩
    · have hD' := hD.lay ge hix hv
      exact ⟨q, hn3.trans hn, hok3, hA2, hpr2, by omega, V, 1, loc, by rw [ew]; exact hD'.sm, fun _ _ _ e => (by cases e), .inl ⟨hmd, rfl, by rw [ew]; exact hD'⟩⟩
    · obtain ⟨m1, m2⟩ := hmi.lay ge hix hv hc
      exact ⟨q + 2, hn3.trans hn, hok3, hA2, hpr2, by omega, V, st, loc, by rw [ew]; exact m1.sm, fun _ _ _ e => (by cases e), .inr ⟨hmd, by rw [ew]; exact m1, by rw [ew, m2]; omega⟩⟩
theorem Ws.anew {σ0 τ τ' : Mem} {z q at' bb : Int} {T g L : Int → Int} {n1 p b qa : Nat} {md : Bool} {O : List Nat} {m : Mv} {a : Rdr} (ge : Geo C z 0) (h : Ws N C σ0 z T g n1 p b q at' md O m A a L τ bb) (h1 : at' < n1) (h2 : at' < 60) (hq : τ.get qa = none) (hob : AOb N qa [qa] (Ak.new 2 65536 (at'.tmod z) (g at' % 65536) 0 false) τ') (x : Ext τ τ') :
  Ws N C σ0 z T g n1 p b q at' md O m A (some (qa, [qa], Ak.new 2 65536 (at'.tmod z) (g at' % 65536) 0 false)) L τ' bb := by
 obtain ⟨V, st, loc, hsm, ham, hmv⟩ := h.s
 exact ⟨h.n, h.ok, h.is.ext x, h.pr.anew hq hob x, h.ab, V, st, loc, hsm, fun qb Qb kb e => by cases e; exact ⟨⟨h1, h2⟩, Amv.new ge.hC⟩, hmv⟩
end Go.Fl
namespace Go.Fl
open Go
set_option linter.unusedVariables false
theorem Opn.slz {w : World} {ρ : Ren} {σ : Mem} {avs avs' : List Value} {v : Value} {ks : List (Option IntKind)} {m : Nat} (h : Opn w ρ σ avs avs') (hv : SlW w ks v) (hz : ∀ a l c, v = .slice a l c → l ≤ m) :
  ∃ ρ' σ' s n cs, Opn w ρ' σ' (s :: avs) (v :: avs') ∧ Sl σ' ks.length n cs s ∧ n ≤ m ∧ FlatL (List.replicate n ks).flatten cs ∧ ∀ i b, σ.get i = some b → σ'.get i = some b := by
 rcases hv with rfl | ⟨a, len, cap, cs, rfl, h1, h2, h3, h4⟩
 ·exact ⟨ρ, σ, _, 0, [], h.nilS, .nil, Nat.zero_le _, .nil, fun _ _ q => q⟩
 ·obtain ⟨ρ', σ', s, o, sl, ext⟩ := h.slice (es := ks.length) h1 h3 (by simp) h4
  exact ⟨ρ', σ', s, len, cs, o, sl, hz _ _ _ rfl, h3, ext⟩
theorem trod_len {H : Type} {enc : TypeId × Value → H} {P : Program} {w : World} {base : Nat} {held : Bool} {t e : TypeId} {fuel : Nat} {cs : List Value} {x : DataW H × List MemPlace} {ts : List TypeId} {ds : List (DataW H)} {j : Nat} (ht : P.underlying t = some (.slice e))
  (h : DataW.trod enc P w base (fun _ => true) held fuel t cs = some x) (h1 : ts[j]? = some t) (h2 : ds[j]? = some x.1) (hz : (DataW.weightsEach P ts ds).all (· ≤ reachBytes) = true) (hb : 1 ≤ P.bytesOf e) :
  ∀ a l c, cs = [.slice a l c] → l ≤ 140737488351232 := by
 intro a l c hc
 rcases DataW.trod_slice ht h with ⟨h0, _⟩ | ⟨a', len, cap, elems, rest, n, _, h3, h4, _, _, _, hlen, _⟩
 ·rw [hc] at h0; cases h0; exact Nat.zero_le _
 ·rw [hc] at h3; cases h3
  rw [h4] at h2
  have := sized_slice hz h1 h2 ht
  simp only [List.length_map] at this
  have e1 : reachBytes = 140737488351232 := by decide
  have e2 : elems.length ≤ (elems.length + rest.length) * P.bytesOf e := Nat.le_trans (Nat.le_add_right _ _) (Nat.le_mul_of_pos_right _ hb)
  omega
end Go.Fl
