/- Alone words come one behind the other, chunk by chunk, each class in chunks of its own: the reading of the law answers true. No condition. -/
import Derived.Test.YthibiempfkcinaaFlPh
namespace Go.Fl
open Go
set_option linter.unusedVariables false
set_option linter.unusedSimpArgs false
variable {N : Nm} {A B : Ar} {σ : Mem} {K : Value → Mem → Prop} {C : Cf} {who : Int}

/-- How the chunks stand: which one is open for each class, what is used of each, how many were ever taken. -/
structure Alo (C : Cf) (o u : Int → Int) (nx : Int) (w : Int → Int) : Prop where
  bd : 0 ≤ nx ∧ nx ≤ C.C
  op : ∀ c, 0 ≤ c → c ≤ 3 → w (2 + c) = o c + 1 ∧ -1 ≤ o c ∧ o c < nx
  cls : ∀ c, 0 ≤ c → c ≤ 3 → 0 ≤ o c → chC (w (C.chunk (o c))) = c
  old : ∀ j, 0 ≤ j → j < nx → chS (w (C.chunk j)) = 1 ∧ chU (w (C.chunk j)) = u j ∧ 0 ≤ u j ∧ u j ≤ C.W
  new : ∀ j, nx ≤ j → j < C.C → w (C.chunk j) = 0 ∧ u j = 0
def good (C : Cf) (o u : Int → Int) (c : Int) : Prop := 0 ≤ o c ∧ u (o c) + roomOf c ≤ C.W
theorem Alo.take (hC : C.ok) {o u w : Int → Int} {nx c : Int} (h : Alo C o u nx w) (c0 : 0 ≤ c) (c3 : c ≤ 3) (hn : nx < C.C) :
    Alo C (upd o c nx) u (nx + 1) (upd (upd w (C.chunk nx) (putChunk 1 c 0 1)) (2 + c) (nx + 1)) := by
  have hW := hC.W
  obtain ⟨p1, p2, p3, p4⟩ := ch_put (st := 1) (c := c) (us := 0) (sp := 1) (by omega) (by omega) (by omega) (by omega)
  have wc : ∀ j, 0 ≤ j → j ≠ nx → upd (upd w (C.chunk nx) (putChunk 1 c 0 1)) (2 + c) (nx + 1) (C.chunk j) = w (C.chunk j) := by
    intro j j0 hj
    rw [upd_ne _ _ (chunk_ne hC j0 c3), upd_ne _ _ (fun e => hj (chunk_inj e))]
  have wn : upd (upd w (C.chunk nx) (putChunk 1 c 0 1)) (2 + c) (nx + 1) (C.chunk nx) = putChunk 1 c 0 1 := by
    rw [upd_ne _ _ (chunk_ne hC h.bd.1 c3), upd_same]
  have un := (h.new nx (Int.le_refl _) hn).2
  refine ⟨⟨by have := h.bd; omega, by omega⟩, fun k k0 k3 => ?_, fun k k0 k3 hk => ?_, fun j j0 j1 => ?_, fun j j0 j1 => ?_⟩
  · by_cases e : k = c
    · subst e; rw [upd_same, upd_same]; have := h.bd; omega
    · rw [upd_ne _ _ (by omega), upd_ne _ _ (fun q => chunk_ne hC h.bd.1 k3 q.symm), upd_ne _ _ e]
      have := h.op k k0 k3; omega
  · by_cases e : k = c
    · subst e; rw [upd_same] at hk ⊢; rw [wn]; exact p2
    · rw [upd_ne _ _ e] at hk ⊢
      have := h.op k k0 k3
      rw [wc _ hk (by omega)]; exact h.cls k k0 k3 hk
  · by_cases e : j = nx
    · subst e; rw [wn, un]; exact ⟨p1, p3, by omega, by omega⟩
    · rw [wc _ j0 e]; exact h.old j j0 (by omega)
  · have := h.bd
    rw [wc _ (by omega) (by omega)]; exact h.new j (by omega) j1
theorem Alo.give (hC : C.ok) {o u w : Int → Int} {nx c : Int} (h : Alo C o u nx w) (c0 : 0 ≤ c) (c3 : c ≤ 3) (hg : good C o u c) :
    Alo C o (upd u (o c) (u (o c) + roomOf c)) nx (upd w (C.chunk (o c)) (putChunk (chS (w (C.chunk (o c)))) (chC (w (C.chunk (o c)))) (chU (w (C.chunk (o c))) + roomOf c) (chN (w (C.chunk (o c)))))) := by
  have hW := hC.W
  have ho := h.op c c0 c3
  have hold := h.old (o c) hg.1 ho.2.2
  have hr := room_bd c0 c3
  have hg2 := hg.2
  have hcl := h.cls c c0 c3 hg.1
  obtain ⟨p1, p2, p3, p4⟩ := ch_put (chS_bd (w (C.chunk (o c)))) (chC_bd (w (C.chunk (o c)))) (us := chU (w (C.chunk (o c))) + roomOf c) (by have := hold.2.1; omega) (chN_bd (w (C.chunk (o c))))
  refine ⟨h.bd, fun k k0 k3 => ?_, fun k k0 k3 hk => ?_, fun j j0 j1 => ?_, fun j j0 j1 => ?_⟩
  · rw [upd_ne _ _ (fun q => chunk_ne hC hg.1 k3 q.symm)]; exact h.op k k0 k3
  · have := h.cls k k0 k3 hk
    by_cases e : o k = o c
    · rw [e, upd_same, p2, hcl, ← this, e, hcl]
    · rw [upd_ne _ _ (fun q => e (chunk_inj q))]; exact this
  · by_cases e : j = o c
    · subst e; rw [upd_same, upd_same, p1, p3, hold.1, hold.2.1]; omega
    · rw [upd_ne _ _ (fun q => e (chunk_inj q)), upd_ne _ _ e]; exact h.old j j0 j1
  · rw [upd_ne _ _ (fun q => by have := chunk_inj q; omega), upd_ne _ _ (by omega)]; exact h.new j j0 j1

/-- Where one who wants words of a class stands. -/
def Ph (C : Cf) (o u : Int → Int) (nx c k : Int) (p : Pl) (w : Int → Int) : Prop :=
  p.ok = false ∧ p.cls = c ∧ (
    (good C o u c ∧ Alo C o u nx w ∨ ¬ good C o u c ∧ nx < C.C ∧ good C (upd o c nx) u c ∧ Alo C (upd o c nx) u (nx + 1) w) ∧
      (let j := w (2 + c) - 1
       p.pc = 0 ∧ k ≤ 72 ∨ p.pc = 1 ∧ p.at' = j ∧ k ≤ 73 ∨ p.pc = 2 ∧ p.at' = j ∧ p.w = w (C.chunk j) ∧ k ≤ 74) ∨
    ¬ good C o u c ∧ (Alo C o u nx w ∧ (p.pc = 0 ∧ k ≤ 0 ∨ p.opn = w (2 + c) ∧
        (p.pc = 1 ∧ p.at' = o c ∧ 0 ≤ o c ∧ k ≤ 1 ∨ p.pc = 3 ∧ p.at' ≤ nx ∧ k ≤ 2 + p.at' ∨ p.pc = 4 ∧ p.at' = nx ∧ p.w = 0 ∧ k ≤ 70)) ∨
      p.pc = 5 ∧ p.at' = nx ∧ nx < C.C ∧ p.w = 0 ∧ k ≤ 71 ∧ ∃ w0, Alo C o u nx w0 ∧ p.opn = w0 (2 + c) ∧ w = upd w0 (C.chunk nx) (putChunk 1 c 0 1)))
/-- What it comes to. -/
def Dn (C : Cf) (o u : Int → Int) (nx c : Int) (p : Pl) (w : Int → Int) : Prop :=
  (good C o u c ∧ p.ok = true ∧ p.sa = C.base (o c) + u (o c) ∧ p.sc = o c ∧ Alo C o (upd u (o c) (u (o c) + roomOf c)) nx w) ∨
  (¬ good C o u c ∧ nx < C.C ∧ p.ok = true ∧ p.sa = C.base nx + u nx ∧ p.sc = nx ∧ Alo C (upd o c nx) (upd u nx (u nx + roomOf c)) (nx + 1) w) ∨
  (¬ good C o u c ∧ nx = C.C ∧ p.ok = false ∧ Alo C o u nx w)

theorem Ph.step (hC : C.ok) {o u : Int → Int} {nx c k b : Int} {p : Pl} (c0 : 0 ≤ c) (c3 : c ≤ 3) (ok : A.ok b) (hb : b < 4611686018427387904) (hf : p.fit C) (h : Ph C o u nx c k p A.w) :
    if (p.step C who A).1 = true then Dn C o u nx c (p.step C who A).2.1 (p.step C who A).2.2.w else Ph C o u nx c (k + 1) (p.step C who A).2.1 (p.step C who A).2.2.w := by
  obtain ⟨ho, hcl, h⟩ := h
  have hC3 := hC.C
  have hr := room_bd c0 c3
  have hf3 := hf.at'
  subst hcl
  rcases h with ⟨hA, h⟩ | ⟨hg, h⟩
  · -- an open chunk has room
    obtain ⟨o1, nx1, hA1, hg1, hfin⟩ : ∃ o1 nx1, Alo C o1 u nx1 A.w ∧ good C o1 u p.cls ∧ ∀ q : Pl, q.ok = true → q.sa = C.base (o1 p.cls) + u (o1 p.cls) → q.sc = o1 p.cls → ∀ w', Alo C o1 (upd u (o1 p.cls) (u (o1 p.cls) + roomOf p.cls)) nx1 w' → Dn C o u nx p.cls q w' := by
      rcases hA with ⟨g, a⟩ | ⟨g, n, g', a⟩
      · exact ⟨o, nx, a, g, fun q q1 q2 q3 w' h => .inl ⟨g, q1, q2, q3, h⟩⟩
      · refine ⟨upd o p.cls nx, nx + 1, a, g', fun q q1 q2 q3 w' h => .inr (.inl ⟨g, n, q1, ?_, ?_, ?_⟩)⟩
        · rw [q2, upd_same]
        · rw [q3, upd_same]
        · rw [upd_same] at h; exact h
    have hop := hA1.op p.cls c0 c3
    have hold := hA1.old (o1 p.cls) hg1.1 hop.2.2
    have hc := hA1.cls p.cls c0 c3 hg1.1
    have hbd := hA1.bd
    have hg2 := hg1.2
    have hj : A.w (2 + p.cls) - 1 = o1 p.cls := by omega
    have hj0 := hg1.1
    dsimp only at h
    have hwr : IntKind.i64.wrap (A.w (2 + p.cls)) = A.w (2 + p.cls) := IntWalk.i64_in _ (by omega)
    rcases h with ⟨h1, hk⟩ | ⟨h1, h2, hk⟩ | ⟨h1, h2, h3, hk⟩
    · rw [Pl.s0b h1 (by rw [hwr]; omega), hwr]
      exact stFl ⟨ho, rfl, .inl ⟨hA, .inr (.inl ⟨rfl, rfl, by omega⟩)⟩⟩
    · have h2' := h2.trans hj
      rw [Pl.s1b h1 (by rw [h2']; omega)]
      refine stFl ⟨ho, rfl, .inl ⟨hA, .inr (.inr ⟨rfl, h2, ?_, by omega⟩)⟩⟩
      show A.w (C.chunk p.at') = A.w (C.chunk (A.w (2 + p.cls) - 1)); rw [h2]
    · have h2' := h2.trans hj
      have h3' : A.w (C.chunk p.at') = p.w := by rw [h3, h2]
      have a1 := aft_cas (who := who) (A := A) (a := C.chunk p.at') (o := p.w) (v := putChunk (chS p.w) (chC p.w) (chU p.w + roomOf p.cls) (chN p.w)) ok (by omega)
      rw [if_pos h3'] at a1
      rw [Pl.s2a h1 h3']
      refine stTr (hfin _ rfl ?_ h2' _ ?_)
      · show C.base p.at' + chU p.w = _
        rw [← h3', h2', hold.2.1]
      · rw [a1.w, ← h3', h2']; exact hA1.give hC c0 c3 hg1
  rcases h with ⟨hA, h⟩ | ⟨h1, h2, h3, h4, hk, w0, hA, h5, h6⟩
  · have hop := hA.op p.cls c0 c3
    have hnx := hA.bd
    have hwr : IntKind.i64.wrap (A.w (2 + p.cls)) = A.w (2 + p.cls) := IntWalk.i64_in _ (by omega)
    rcases h with ⟨h1, hk⟩ | ⟨hop2, ⟨h1, h2, h3, hk⟩ | ⟨h1, h2, hk⟩ | ⟨h1, h2, h3, hk⟩⟩
    · by_cases e : A.w (2 + p.cls) - 1 < 0
      · rw [Pl.s0a h1 (by rw [hwr]; exact e)]
        exact stFl ⟨ho, rfl, .inr ⟨hg, .inl ⟨hA, .inr ⟨rfl, .inr (.inl ⟨rfl, hnx.1, by show k + 1 ≤ 2 + 0; omega⟩)⟩⟩⟩⟩
      · rw [Pl.s0b h1 (by rw [hwr]; exact e), hwr]
        exact stFl ⟨ho, rfl, .inr ⟨hg, .inl ⟨hA, .inr ⟨rfl, .inl ⟨rfl, by show A.w (2 + p.cls) - 1 = _; omega, by omega, by omega⟩⟩⟩⟩⟩
    · have hold := hA.old (o p.cls) h3 hop.2.2
      have hng : ¬ (u (o p.cls) + roomOf p.cls ≤ C.W) := fun q => hg ⟨h3, q⟩
      rw [Pl.s1a h1 (by rw [h2]; omega)]
      exact stFl ⟨ho, rfl, .inr ⟨hg, .inl ⟨hA, .inr ⟨hop2, .inr (.inl ⟨rfl, hnx.1, by show k + 1 ≤ 2 + 0; omega⟩)⟩⟩⟩⟩
    · by_cases e : p.at' = nx
      · have hz := (hA.new nx (Int.le_refl _) (by omega)).1
        rw [Pl.s3b h1 (by rw [e, hz]; decide)]
        exact stFl ⟨ho, rfl, .inr ⟨hg, .inl ⟨hA, .inr ⟨hop2, .inr (.inr ⟨rfl, e, by show A.w (C.chunk p.at') = 0; rw [e, hz], by omega⟩)⟩⟩⟩⟩
      · have hold := hA.old p.at' hf3.1 (by omega)
        rw [Pl.s3a h1 (by omega)]
        by_cases e2 : C.C ≤ p.at' + 1
        · rw [decide_eq_true e2]
          exact stTr (.inr (.inr ⟨hg, by omega, ho, hA⟩))
        · rw [decide_eq_false e2]
          exact stFl ⟨ho, rfl, .inr ⟨hg, .inl ⟨hA, .inr ⟨hop2, .inr (.inl ⟨rfl, by show p.at' + 1 ≤ nx; omega, by show k + 1 ≤ 2 + (p.at' + 1); omega⟩)⟩⟩⟩⟩
    · have hz := (hA.new nx (Int.le_refl _) (by omega)).1
      have hz' : A.w (C.chunk p.at') = p.w := by rw [h2, hz, h3]
      rw [Pl.s4a h1 hz']
      have a1 := aft_cas (who := who) (A := A) (a := C.chunk p.at') (o := p.w) (v := p.fresh) ok (by omega)
      rw [if_pos hz'] at a1
      refine stFl ⟨ho, rfl, .inr ⟨hg, .inr ⟨rfl, h2, by omega, h3, by omega, A.w, hA, hop2, ?_⟩⟩⟩
      rw [a1.w]
      have : p.fresh = putChunk 1 p.cls 0 1 := by unfold Pl.fresh; rw [h3]; rfl
      rw [this, h2]
  · have e : A.w (2 + p.cls) = p.opn := by rw [h6, upd_ne _ _ (fun q => chunk_ne hC hA.bd.1 c3 q.symm), h5]
    rw [Pl.s5a h1 e]
    have a1 := aft_cas (who := who) (A := A) (a := 2 + p.cls) (o := p.opn) (v := p.at' + 1) ok (by omega)
    rw [if_pos e] at a1
    rw [a1.w, h6, h2]
    have hu := (hA.new nx (Int.le_refl _) h3).2
    have hW := hC.W
    exact stFl ⟨ho, rfl, .inl ⟨.inr ⟨hg, h3, ⟨by rw [upd_same]; exact hA.bd.1, by rw [upd_same, hu]; omega⟩, hA.take hC c0 c3 h3⟩, .inl ⟨rfl, by omega⟩⟩⟩

def oC (o : Int → Int) : List Value := cells .i64 4 o
theorem oC_sub {o : Int → Int} {c : Int} (c0 : 0 ≤ c) (c3 : c ≤ 3) : sub (cells .i64 4 o) (c.toNat * 1) 1 false = some (.int .i64 (o c)) := by
  have := cells_sub .i64 (n := 4) o c0 (by omega); rwa [Nat.zero_add] at this
theorem oC_set {o : Int → Int} {c v : Int} (c0 : 0 ≤ c) (c3 : c ≤ 3) : gStore 1 [.pointer (some ⟨11, c.toNat * 1, some 0⟩), .int .i64 v] (cells .i64 4 o) = some (cells .i64 4 (upd o c v)) := by
  rw [gStore_i (by rw [cells_len]; omega), lay_set (by rw [cells_len]; omega), Nat.mul_one, cells_set .i64 o v c0 (by omega)]
theorem gStoreH2 {k : Nat} {a b c d w x y z : Int} : gStore 4 [.pointer (some ⟨k, 0, some 0⟩), .agg #[.int .i64 a, .int .i64 b, .int .i64 c, .int .i64 d]] [.int .i64 w, .int .i64 x, .int .i64 y, .int .i64 z] = some [.int .i64 a, .int .i64 b, .int .i64 c, .int .i64 d] := rfl
def CF : Value → Mem → Prop := fun v _ => v = .bool true
theorem alone5 {J2 R1 : List Value → List (List Value) → Mem → Prop} {s : Value} {q : Nat} {o u : Int → Int} {nx i c : Int} (hN : N.ok) (hC : C.ok) (hA : isA N A σ) {b : Int} (hP : Pa C A b) (c0 : 0 ≤ c) (c3 : c ≤ 3) (i0 : 0 ≤ i) (i1 : i < 60)
    (hq : σ.get q = some ⟨cells .i64 C.C.toNat u, true⟩) (hg : good C o u c) (hnx : o c < nx) (hal : Alo C o (upd u (o c) (u (o c) + roomOf c)) nx A.w)
    (hk : ∀ τ, τ = σ.set q ⟨cells .i64 C.C.toNat (upd u (o c) (u (o c) + roomOf c)), true⟩ → q ∉ N.l → isA N A τ → R1 [s, .int .i64 C.C, .int .i64 C.W, .slice (some ⟨q, 0, none⟩) C.C.toNat 1, .int .i64 nx, .int .i64 (i + 1)] [N.el C 0, oC o] τ) (hd : q ∉ N.l) :
    w_law07_PlaceAlone_j5 K J2 R1 (w_law07_PlaceAlone_j4 K J2 R1) [s, .int .i64 C.C, .int .i64 C.W, .slice (some ⟨q, 0, none⟩) C.C.toNat 1, .int .i64 nx, .int .i64 i, .int .i64 c, .int .i64 (roomOf c), .bool true]
      [N.el C 0, oC o, [.int .i64 (C.base (o c) + u (o c)), .int .i64 (o c)]] σ := by
  have hC3 := hC.C
  have hW := hC.W
  have hr := room_bd c0 c3
  have hbd := hal.bd
  have hj0 := hg.1
  have hg2 := hg.2
  have hold := hal.old (o c) hj0 hnx
  rw [upd_same] at hold
  have hcl := hal.cls c c0 c3 hj0
  have hbb := base_bd hC hj0 (by omega)
  have hcn : ((C.C.toNat : Nat) : Int) = C.C := by omega
  have hlt : o c < (C.C.toNat : Int) := by omega
  have hcb := chunk_bd hC hj0 (by omega) hP.n
  have hc4 : c < (4 : Nat) := by omega
  have hst := hold.1
  have huu := hold.2.1
  simp only [w_law07_PlaceAlone_j5, w_law07_PlaceAlone_j5b, xIxA c0 hc4, oC, oC_sub c0 c3, xMove, xPickT, xPickF, xNil, xFld, xExt0, xExt1, xExt30, xExt31, xExt32, xAdd, xSub, xMul, xEql, xNeq, xLss, xLeq, xGtr, xGeq, xEqPN, xEqNN, xNePN, xNeNN, xEqBB, xNeBB, xNot, xConv, xLen, xMin, xMax, xIfc, xIfT, xIfF, xIfD, xJoinE, xOs, xCs, xFldV, List.getD_cons_zero, List.getD_cons_succ, Nat.zero_add, Nat.reduceAdd, Mem.get_set_same, Mem.set_set, if_true, if_false, Bool.not_true, Bool.not_false, decide_true, decide_false, decide_eq_true_eq, decide_not, Bool.not_eq_true, Bool.false_eq_true, reduceIte, Int.reduceLT, Int.reduceLE, Int.reduceEq, Int.reduceNeg, Int.reduceAdd, Int.reduceSub, locP_e, gBox_a, gBox_i, gBox_b, gBox_p, gLoad_s, gAlloc_s, gStore_a, gStore_i, gStore_b, gStore_p, sub_z, sub_s, lay_z, lay_s, List.length_cons, List.length_nil, Nat.reduceLeDiff, Nat.le_refl, List.drop_zero, List.drop_succ_cons, List.take_succ_cons, List.take_zero, List.drop_nil, List.cons_append, List.nil_append, List.all_cons, List.all_nil, oneB_i, oneB_b, oneB_p, oneB_sl, Bool.and_true, Nat.reduceLT, Nat.lt_irrefl, Nat.zero_lt_one, gBoxE, gBoxC, subE, subEC, subE0, subE1, subE2, subE3, subE4, subE6, subE7, subE8, subC, subC0, subC1, subC2, subC3, subC4, subC5, subC6]
  rw [c_Base hC hj0 (by omega), xIxS hj0 hlt]
  simp only [xMove, xPickT, xPickF, xNil, xFld, xExt0, xExt1, xExt30, xExt31, xExt32, xAdd, xSub, xMul, xEql, xNeq, xLss, xLeq, xGtr, xGeq, xEqPN, xEqNN, xNePN, xNeNN, xEqBB, xNeBB, xNot, xConv, xLen, xMin, xMax, xIfc, xIfT, xIfF, xIfD, xJoinE, xOs, xCs, xFldV, List.getD_cons_zero, List.getD_cons_succ, Nat.zero_add, Nat.reduceAdd, Mem.get_set_same, Mem.set_set, if_true, if_false, Bool.not_true, Bool.not_false, decide_true, decide_false, decide_eq_true_eq, decide_not, Bool.not_eq_true, Bool.false_eq_true, reduceIte, Int.reduceLT, Int.reduceLE, Int.reduceEq, Int.reduceNeg, Int.reduceAdd, Int.reduceSub, locP_e, gBox_a, gBox_i, gBox_b, gBox_p, gLoad_s, gAlloc_s, gStore_a, gStore_i, gStore_b, gStore_p, sub_z, sub_s, lay_z, lay_s, List.length_cons, List.length_nil, Nat.reduceLeDiff, Nat.le_refl, List.drop_zero, List.drop_succ_cons, List.take_succ_cons, List.take_zero, List.drop_nil, List.cons_append, List.nil_append, List.all_cons, List.all_nil, oneB_i, oneB_b, oneB_p, oneB_sl, Bool.and_true, Nat.reduceLT, Nat.lt_irrefl, Nat.zero_lt_one, gBoxE, gBoxC, subE, subEC, subE0, subE1, subE2, subE3, subE4, subE6, subE7, subE8, subC, subC0, subC1, subC2, subC3, subC4, subC5, subC6]
  rw [ldCells hq hj0 hlt]
  simp only [xMove, xPickT, xPickF, xNil, xFld, xExt0, xExt1, xExt30, xExt31, xExt32, xAdd, xSub, xMul, xEql, xNeq, xLss, xLeq, xGtr, xGeq, xEqPN, xEqNN, xNePN, xNeNN, xEqBB, xNeBB, xNot, xConv, xLen, xMin, xMax, xIfc, xIfT, xIfF, xIfD, xJoinE, xOs, xCs, xFldV, List.getD_cons_zero, List.getD_cons_succ, Nat.zero_add, Nat.reduceAdd, Mem.get_set_same, Mem.set_set, if_true, if_false, Bool.not_true, Bool.not_false, decide_true, decide_false, decide_eq_true_eq, decide_not, Bool.not_eq_true, Bool.false_eq_true, reduceIte, Int.reduceLT, Int.reduceLE, Int.reduceEq, Int.reduceNeg, Int.reduceAdd, Int.reduceSub, locP_e, gBox_a, gBox_i, gBox_b, gBox_p, gLoad_s, gAlloc_s, gStore_a, gStore_i, gStore_b, gStore_p, sub_z, sub_s, lay_z, lay_s, List.length_cons, List.length_nil, Nat.reduceLeDiff, Nat.le_refl, List.drop_zero, List.drop_succ_cons, List.take_succ_cons, List.take_zero, List.drop_nil, List.cons_append, List.nil_append, List.all_cons, List.all_nil, oneB_i, oneB_b, oneB_p, oneB_sl, Bool.and_true, Nat.reduceLT, Nat.lt_irrefl, Nat.zero_lt_one, gBoxE, gBoxC, subE, subEC, subE0, subE1, subE2, subE3, subE4, subE6, subE7, subE8, subC, subC0, subC1, subC2, subC3, subC4, subC5, subC6]
  rw [IntWalk.i64_in (C.base (o c) + u (o c)) (by omega)]
  simp only [w_law07_PlaceAlone_j6, w_law07_PlaceAlone_j6b, xMove, xPickT, xPickF, xNil, xFld, xExt0, xExt1, xExt30, xExt31, xExt32, xAdd, xSub, xMul, xEql, xNeq, xLss, xLeq, xGtr, xGeq, xEqPN, xEqNN, xNePN, xNeNN, xEqBB, xNeBB, xNot, xConv, xLen, xMin, xMax, xIfc, xIfT, xIfF, xIfD, xJoinE, xOs, xCs, xFldV, List.getD_cons_zero, List.getD_cons_succ, Nat.zero_add, Nat.reduceAdd, Mem.get_set_same, Mem.set_set, if_true, if_false, Bool.not_true, Bool.not_false, decide_true, decide_false, decide_eq_true_eq, decide_not, Bool.not_eq_true, Bool.false_eq_true, reduceIte, Int.reduceLT, Int.reduceLE, Int.reduceEq, Int.reduceNeg, Int.reduceAdd, Int.reduceSub, locP_e, gBox_a, gBox_i, gBox_b, gBox_p, gLoad_s, gAlloc_s, gStore_a, gStore_i, gStore_b, gStore_p, sub_z, sub_s, lay_z, lay_s, List.length_cons, List.length_nil, Nat.reduceLeDiff, Nat.le_refl, List.drop_zero, List.drop_succ_cons, List.take_succ_cons, List.take_zero, List.drop_nil, List.cons_append, List.nil_append, List.all_cons, List.all_nil, oneB_i, oneB_b, oneB_p, oneB_sl, Bool.and_true, Nat.reduceLT, Nat.lt_irrefl, Nat.zero_lt_one, gBoxE, gBoxC, subE, subEC, subE0, subE1, subE2, subE3, subE4, subE6, subE7, subE8, subC, subC0, subC1, subC2, subC3, subC4, subC5, subC6]
  rw [xIxS hj0 hlt]
  simp only [xMove, xPickT, xPickF, xNil, xFld, xExt0, xExt1, xExt30, xExt31, xExt32, xAdd, xSub, xMul, xEql, xNeq, xLss, xLeq, xGtr, xGeq, xEqPN, xEqNN, xNePN, xNeNN, xEqBB, xNeBB, xNot, xConv, xLen, xMin, xMax, xIfc, xIfT, xIfF, xIfD, xJoinE, xOs, xCs, xFldV, List.getD_cons_zero, List.getD_cons_succ, Nat.zero_add, Nat.reduceAdd, Mem.get_set_same, Mem.set_set, if_true, if_false, Bool.not_true, Bool.not_false, decide_true, decide_false, decide_eq_true_eq, decide_not, Bool.not_eq_true, Bool.false_eq_true, reduceIte, Int.reduceLT, Int.reduceLE, Int.reduceEq, Int.reduceNeg, Int.reduceAdd, Int.reduceSub, locP_e, gBox_a, gBox_i, gBox_b, gBox_p, gLoad_s, gAlloc_s, gStore_a, gStore_i, gStore_b, gStore_p, sub_z, sub_s, lay_z, lay_s, List.length_cons, List.length_nil, Nat.reduceLeDiff, Nat.le_refl, List.drop_zero, List.drop_succ_cons, List.take_succ_cons, List.take_zero, List.drop_nil, List.cons_append, List.nil_append, List.all_cons, List.all_nil, oneB_i, oneB_b, oneB_p, oneB_sl, Bool.and_true, Nat.reduceLT, Nat.lt_irrefl, Nat.zero_lt_one, gBoxE, gBoxC, subE, subEC, subE0, subE1, subE2, subE3, subE4, subE6, subE7, subE8, subC, subC0, subC1, subC2, subC3, subC4, subC5, subC6]
  rw [ldCells hq hj0 hlt]
  simp only [xMove, xPickT, xPickF, xNil, xFld, xExt0, xExt1, xExt30, xExt31, xExt32, xAdd, xSub, xMul, xEql, xNeq, xLss, xLeq, xGtr, xGeq, xEqPN, xEqNN, xNePN, xNeNN, xEqBB, xNeBB, xNot, xConv, xLen, xMin, xMax, xIfc, xIfT, xIfF, xIfD, xJoinE, xOs, xCs, xFldV, List.getD_cons_zero, List.getD_cons_succ, Nat.zero_add, Nat.reduceAdd, Mem.get_set_same, Mem.set_set, if_true, if_false, Bool.not_true, Bool.not_false, decide_true, decide_false, decide_eq_true_eq, decide_not, Bool.not_eq_true, Bool.false_eq_true, reduceIte, Int.reduceLT, Int.reduceLE, Int.reduceEq, Int.reduceNeg, Int.reduceAdd, Int.reduceSub, locP_e, gBox_a, gBox_i, gBox_b, gBox_p, gLoad_s, gAlloc_s, gStore_a, gStore_i, gStore_b, gStore_p, sub_z, sub_s, lay_z, lay_s, List.length_cons, List.length_nil, Nat.reduceLeDiff, Nat.le_refl, List.drop_zero, List.drop_succ_cons, List.take_succ_cons, List.take_zero, List.drop_nil, List.cons_append, List.nil_append, List.all_cons, List.all_nil, oneB_i, oneB_b, oneB_p, oneB_sl, Bool.and_true, Nat.reduceLT, Nat.lt_irrefl, Nat.zero_lt_one, gBoxE, gBoxC, subE, subEC, subE0, subE1, subE2, subE3, subE4, subE6, subE7, subE8, subC, subC0, subC1, subC2, subC3, subC4, subC5, subC6]
  rw [IntWalk.i64_in (u (o c) + roomOf c) (by omega), xIxS hj0 hlt]
  simp only [xMove, xPickT, xPickF, xNil, xFld, xExt0, xExt1, xExt30, xExt31, xExt32, xAdd, xSub, xMul, xEql, xNeq, xLss, xLeq, xGtr, xGeq, xEqPN, xEqNN, xNePN, xNeNN, xEqBB, xNeBB, xNot, xConv, xLen, xMin, xMax, xIfc, xIfT, xIfF, xIfD, xJoinE, xOs, xCs, xFldV, List.getD_cons_zero, List.getD_cons_succ, Nat.zero_add, Nat.reduceAdd, Mem.get_set_same, Mem.set_set, if_true, if_false, Bool.not_true, Bool.not_false, decide_true, decide_false, decide_eq_true_eq, decide_not, Bool.not_eq_true, Bool.false_eq_true, reduceIte, Int.reduceLT, Int.reduceLE, Int.reduceEq, Int.reduceNeg, Int.reduceAdd, Int.reduceSub, locP_e, gBox_a, gBox_i, gBox_b, gBox_p, gLoad_s, gAlloc_s, gStore_a, gStore_i, gStore_b, gStore_p, sub_z, sub_s, lay_z, lay_s, List.length_cons, List.length_nil, Nat.reduceLeDiff, Nat.le_refl, List.drop_zero, List.drop_succ_cons, List.take_succ_cons, List.take_zero, List.drop_nil, List.cons_append, List.nil_append, List.all_cons, List.all_nil, oneB_i, oneB_b, oneB_p, oneB_sl, Bool.and_true, Nat.reduceLT, Nat.lt_irrefl, Nat.zero_lt_one, gBoxE, gBoxC, subE, subEC, subE0, subE1, subE2, subE3, subE4, subE6, subE7, subE8, subC, subC0, subC1, subC2, subC3, subC4, subC5, subC6]
  rw [stCells hq hj0 hlt, c_Chunk hC hj0 (by omega)]
  have hA' := hA.setO (c := ⟨cells .i64 C.C.toNat (upd u (o c) (u (o c) + roomOf c)), true⟩) hd
  have gq' : (σ.set q ⟨cells .i64 C.C.toNat (upd u (o c) (u (o c) + roomOf c)), true⟩).get q = some ⟨cells .i64 C.C.toNat (upd u (o c) (u (o c) + roomOf c)), true⟩ := Mem.get_set_same _ _ _
  replace hk := hk _ rfl hd hA'
  generalize σ.set q ⟨cells .i64 C.C.toNat (upd u (o c) (u (o c) + roomOf c)), true⟩ = υ at *
  rw [c_PeekA hN hA' hcb.1 hcb.2, c_wChunk (hP.ok.w _).1 (hP.ok.w _).2]
  simp only [gStoreH2, hst, hcl, huu, xMove, xPickT, xPickF, xNil, xFld, xExt0, xExt1, xExt30, xExt31, xExt32, xAdd, xSub, xMul, xEql, xNeq, xLss, xLeq, xGtr, xGeq, xEqPN, xEqNN, xNePN, xNeNN, xEqBB, xNeBB, xNot, xConv, xLen, xMin, xMax, xIfc, xIfT, xIfF, xIfD, xJoinE, xOs, xCs, xFldV, List.getD_cons_zero, List.getD_cons_succ, Nat.zero_add, Nat.reduceAdd, Mem.get_set_same, Mem.set_set, if_true, if_false, Bool.not_true, Bool.not_false, decide_true, decide_false, decide_eq_true_eq, decide_not, Bool.not_eq_true, Bool.false_eq_true, reduceIte, Int.reduceLT, Int.reduceLE, Int.reduceEq, Int.reduceNeg, Int.reduceAdd, Int.reduceSub, locP_e, gBox_a, gBox_i, gBox_b, gBox_p, gLoad_s, gAlloc_s, gStore_a, gStore_i, gStore_b, gStore_p, sub_z, sub_s, lay_z, lay_s, List.length_cons, List.length_nil, Nat.reduceLeDiff, Nat.le_refl, List.drop_zero, List.drop_succ_cons, List.take_succ_cons, List.take_zero, List.drop_nil, List.cons_append, List.nil_append, List.all_cons, List.all_nil, oneB_i, oneB_b, oneB_p, oneB_sl, Bool.and_true, Nat.reduceLT, Nat.lt_irrefl, Nat.zero_lt_one, gBoxE, gBoxC, subE, subEC, subE0, subE1, subE2, subE3, subE4, subE6, subE7, subE8, subC, subC0, subC1, subC2, subC3, subC4, subC5, subC6]
  rw [xIxS hj0 hlt]
  simp only [xMove, xPickT, xPickF, xNil, xFld, xExt0, xExt1, xExt30, xExt31, xExt32, xAdd, xSub, xMul, xEql, xNeq, xLss, xLeq, xGtr, xGeq, xEqPN, xEqNN, xNePN, xNeNN, xEqBB, xNeBB, xNot, xConv, xLen, xMin, xMax, xIfc, xIfT, xIfF, xIfD, xJoinE, xOs, xCs, xFldV, List.getD_cons_zero, List.getD_cons_succ, Nat.zero_add, Nat.reduceAdd, Mem.get_set_same, Mem.set_set, if_true, if_false, Bool.not_true, Bool.not_false, decide_true, decide_false, decide_eq_true_eq, decide_not, Bool.not_eq_true, Bool.false_eq_true, reduceIte, Int.reduceLT, Int.reduceLE, Int.reduceEq, Int.reduceNeg, Int.reduceAdd, Int.reduceSub, locP_e, gBox_a, gBox_i, gBox_b, gBox_p, gLoad_s, gAlloc_s, gStore_a, gStore_i, gStore_b, gStore_p, sub_z, sub_s, lay_z, lay_s, List.length_cons, List.length_nil, Nat.reduceLeDiff, Nat.le_refl, List.drop_zero, List.drop_succ_cons, List.take_succ_cons, List.take_zero, List.drop_nil, List.cons_append, List.nil_append, List.all_cons, List.all_nil, oneB_i, oneB_b, oneB_p, oneB_sl, Bool.and_true, Nat.reduceLT, Nat.lt_irrefl, Nat.zero_lt_one, gBoxE, gBoxC, subE, subEC, subE0, subE1, subE2, subE3, subE4, subE6, subE7, subE8, subC, subC0, subC1, subC2, subC3, subC4, subC5, subC6]
  rw [ldCells gq' hj0 hlt, upd_same]
  simp only [w_law07_PlaceAlone_j7, w_law07_PlaceAlone_j7b, w_law07_PlaceAlone_j4, w_law07_PlaceAlone_j4b, xMove, xPickT, xPickF, xNil, xFld, xExt0, xExt1, xExt30, xExt31, xExt32, xAdd, xSub, xMul, xEql, xNeq, xLss, xLeq, xGtr, xGeq, xEqPN, xEqNN, xNePN, xNeNN, xEqBB, xNeBB, xNot, xConv, xLen, xMin, xMax, xIfc, xIfT, xIfF, xIfD, xJoinE, xOs, xCs, xFldV, List.getD_cons_zero, List.getD_cons_succ, Nat.zero_add, Nat.reduceAdd, Mem.get_set_same, Mem.set_set, if_true, if_false, Bool.not_true, Bool.not_false, decide_true, decide_false, decide_eq_true_eq, decide_not, Bool.not_eq_true, Bool.false_eq_true, reduceIte, Int.reduceLT, Int.reduceLE, Int.reduceEq, Int.reduceNeg, Int.reduceAdd, Int.reduceSub, locP_e, gBox_a, gBox_i, gBox_b, gBox_p, gLoad_s, gAlloc_s, gStore_a, gStore_i, gStore_b, gStore_p, sub_z, sub_s, lay_z, lay_s, List.length_cons, List.length_nil, Nat.reduceLeDiff, Nat.le_refl, List.drop_zero, List.drop_succ_cons, List.take_succ_cons, List.take_zero, List.drop_nil, List.cons_append, List.nil_append, List.all_cons, List.all_nil, oneB_i, oneB_b, oneB_p, oneB_sl, Bool.and_true, Nat.reduceLT, Nat.lt_irrefl, Nat.zero_lt_one, gBoxE, gBoxC, subE, subEC, subE0, subE1, subE2, subE3, subE4, subE6, subE7, subE8, subC, subC0, subC1, subC2, subC3, subC4, subC5, subC6]
  rw [IntWalk.i64_in (i + 1) (by omega)]
  exact hk

theorem gStoreS {k : Nat} {a b w x : Int} : gStore 2 [.pointer (some ⟨k, 0, some 0⟩), .agg #[.int .i64 a, .int .i64 b]] [.int .i64 w, .int .i64 x] = some [.int .i64 a, .int .i64 b] := rfl
theorem gStoreF {k : Nat} {a b c d w x y z : Int} : gStore 4 [.pointer (some ⟨k, 0, some 0⟩), .agg #[.int .i64 a, .int .i64 b, .int .i64 c, .int .i64 d]] [.int .i64 w, .int .i64 x, .int .i64 y, .int .i64 z] = some [.int .i64 a, .int .i64 b, .int .i64 c, .int .i64 d] := rfl
theorem oC_m : oC (fun _ => -1) = [.int .i64 (-1), .int .i64 (-1), .int .i64 (-1), .int .i64 (-1)] := rfl

theorem law_PlaceAlone (σ : Mem) (a0 : Int) (w0 : (Lit.int .i64 a0).wf = true) (a1 : Int) (w1 : (Lit.int .i64 a1).wf = true) (s : Value) (len : Nat) (cs : List Value) (sl : Sl σ 1 len cs s) (hm : len ≤ maxLen) (hf : FlatL (List.replicate len [some .i64]).flatten cs) :
    s_law07_PlaceAlone [.int .i64 a0, .int .i64 a1, s] (fun v _ => v = .bool true) σ := by
  obtain ⟨g, hg, _⟩ := sl.argI hf
  simp only [s_law07_PlaceAlone, w_law07_PlaceAlone, andI7, andI31, xMove, xPickT, xPickF, xNil, xFld, xExt0, xExt1, xExt30, xExt31, xExt32, xAdd, xSub, xMul, xEql, xNeq, xLss, xLeq, xGtr, xGeq, xEqPN, xEqNN, xNePN, xNeNN, xEqBB, xNeBB, xNot, xConv, xLen, xMin, xMax, xIfc, xIfT, xIfF, xIfD, xJoinE, xOs, xCs, xFldV, List.getD_cons_zero, List.getD_cons_succ, Nat.zero_add, Nat.reduceAdd, Mem.get_set_same, Mem.set_set, if_true, if_false, Bool.not_true, Bool.not_false, decide_true, decide_false, decide_eq_true_eq, decide_not, Bool.not_eq_true, Bool.false_eq_true, reduceIte, Int.reduceLT, Int.reduceLE, Int.reduceEq, Int.reduceNeg, Int.reduceAdd, Int.reduceSub, locP_e, gBox_a, gBox_i, gBox_b, gBox_p, gLoad_s, gAlloc_s, gStore_a, gStore_i, gStore_b, gStore_p, sub_z, sub_s, lay_z, lay_s, List.length_cons, List.length_nil, Nat.reduceLeDiff, Nat.le_refl, List.drop_zero, List.drop_succ_cons, List.take_succ_cons, List.take_zero, List.drop_nil, List.cons_append, List.nil_append, List.all_cons, List.all_nil, oneB_i, oneB_b, oneB_p, oneB_sl, Bool.and_true, Nat.reduceLT, Nat.lt_irrefl, Nat.zero_lt_one, gBoxE, gBoxC, subE, subEC, subE0, subE1, subE2, subE3, subE4, subE6, subE7, subE8, subC, subC0, subC1, subC2, subC3, subC4, subC5, subC6]
  have hn : 1 ≤ 1 + a0 % 8 ∧ 1 + a0 % 8 ≤ 8 := by omega
  have hw : 17 ≤ 17 + a1 % 32 ∧ 17 + a1 % 32 ≤ 48 := by omega
  generalize 1 + a0 % 8 = n at hn
  generalize 17 + a1 % 32 = W at hw
  rw [IntWalk.i64_in n (by omega), IntWalk.i64_in W (by omega)]
  have hC : (cA 1 1 n W).ok := cA_ok (by omega) (by omega) (by omega) (by omega)
  have hS : (cA 1 1 n W).S = 1 := rfl
  have hcc : (cA 1 1 n W).C = n := rfl
  have hcw : (cA 1 1 n W).W = W := rfl
  refine c_Arena (C := cA 1 1 n W) hC rfl rfl rfl fun N A τ hN hF hA hE hfr => ?_
  have ok : A.ok 1000 := ⟨hF.ok.w, by have := hF.ok.s; omega, hF.ok.t⟩
  have hl := len_bd hC
  have hn4 : (cA 1 1 n W).len ≤ A.n := by rw [hF.n]; omega
  have hP : Pa (cA 1 1 n W) A 1000 := by
    refine ⟨ok, hn4, fun c c0 c3 => ?_⟩
    rw [hF.w, w0_open hC c0 c3]
    show (0 : Int) ≤ n
    omega
  have hAl : Alo (cA 1 1 n W) (fun _ => -1) (fun _ => 0) 0 A.w := by
    refine ⟨⟨Int.le_refl _, by omega⟩, fun c c0 c3 => ?_, fun c _ _ h => by omega, fun j _ _ => by omega, fun j j0 _ => ?_⟩
    · rw [hF.w, w0_open hC c0 c3]; omega
    · rw [hF.w, w0_chunk hC j0]; exact ⟨rfl, rfl⟩
  generalize hCe : cA 1 1 n W = C at *
  clear hCe
  subst hcc hcw
  simp only [c_awake7, gStoreE, w_law07_PlaceAlone_j1, w_law07_PlaceAlone_j1b, xMove, xPickT, xPickF, xNil, xFld, xExt0, xExt1, xExt30, xExt31, xExt32, xAdd, xSub, xMul, xEql, xNeq, xLss, xLeq, xGtr, xGeq, xEqPN, xEqNN, xNePN, xNeNN, xEqBB, xNeBB, xNot, xConv, xLen, xMin, xMax, xIfc, xIfT, xIfF, xIfD, xJoinE, xOs, xCs, xFldV, List.getD_cons_zero, List.getD_cons_succ, Nat.zero_add, Nat.reduceAdd, Mem.get_set_same, Mem.set_set, if_true, if_false, Bool.not_true, Bool.not_false, decide_true, decide_false, decide_eq_true_eq, decide_not, Bool.not_eq_true, Bool.false_eq_true, reduceIte, Int.reduceLT, Int.reduceLE, Int.reduceEq, Int.reduceNeg, Int.reduceAdd, Int.reduceSub, locP_e, gBox_a, gBox_i, gBox_b, gBox_p, gLoad_s, gAlloc_s, gStore_a, gStore_i, gStore_b, gStore_p, sub_z, sub_s, lay_z, lay_s, List.length_cons, List.length_nil, Nat.reduceLeDiff, Nat.le_refl, List.drop_zero, List.drop_succ_cons, List.take_succ_cons, List.take_zero, List.drop_nil, List.cons_append, List.nil_append, List.all_cons, List.all_nil, oneB_i, oneB_b, oneB_p, oneB_sl, Bool.and_true, Nat.reduceLT, Nat.lt_irrefl, Nat.zero_lt_one, gBoxE, gBoxC, subE, subEC, subE0, subE1, subE2, subE3, subE4, subE6, subE7, subE8, subC, subC0, subC1, subC2, subC3, subC4, subC5, subC6]
  have bb : ∀ K : Value → Prop, xF (fBuild [(0, 1), (1, 1), (2, 1), (3, 1)] [.int .i64 0, .int .i64 0, .int .i64 0, .int .i64 0] [0, 1, 2, 3]) [.int .i64 (-1), .int .i64 (-1), .int .i64 (-1), .int .i64 (-1)] K = K (.agg #[.int .i64 (-1), .int .i64 (-1), .int .i64 (-1), .int .i64 (-1)]) := fun K => nr rfl
  rw [bb]
  refine hMakeS_i (by omega) (by omega) (by decide) fun q τ1 hq gq x1 => ?_
  rw [cells_repl] at gq
  simp only [gStoreF, xMove, xPickT, xPickF, xNil, xFld, xExt0, xExt1, xExt30, xExt31, xExt32, xAdd, xSub, xMul, xEql, xNeq, xLss, xLeq, xGtr, xGeq, xEqPN, xEqNN, xNePN, xNeNN, xEqBB, xNeBB, xNot, xConv, xLen, xMin, xMax, xIfc, xIfT, xIfF, xIfD, xJoinE, xOs, xCs, xFldV, List.getD_cons_zero, List.getD_cons_succ, Nat.zero_add, Nat.reduceAdd, Mem.get_set_same, Mem.set_set, if_true, if_false, Bool.not_true, Bool.not_false, decide_true, decide_false, decide_eq_true_eq, decide_not, Bool.not_eq_true, Bool.false_eq_true, reduceIte, Int.reduceLT, Int.reduceLE, Int.reduceEq, Int.reduceNeg, Int.reduceAdd, Int.reduceSub, locP_e, gBox_a, gBox_i, gBox_b, gBox_p, gLoad_s, gAlloc_s, gStore_a, gStore_i, gStore_b, gStore_p, sub_z, sub_s, lay_z, lay_s, List.length_cons, List.length_nil, Nat.reduceLeDiff, Nat.le_refl, List.drop_zero, List.drop_succ_cons, List.take_succ_cons, List.take_zero, List.drop_nil, List.cons_append, List.nil_append, List.all_cons, List.all_nil, oneB_i, oneB_b, oneB_p, oneB_sl, Bool.and_true, Nat.reduceLT, Nat.lt_irrefl, Nat.zero_lt_one, gBoxE, gBoxC, subE, subEC, subE0, subE1, subE2, subE3, subE4, subE6, subE7, subE8, subC, subC0, subC1, subC2, subC3, subC4, subC5, subC6]
  have hqd := hA.new hq
  have hA1 := hA.ext x1
  have ext1 := hE.trans x1
  have hq0 : σ.get q = none := hE.none hq
  rw [← oC_m]
  refine xLoop_r (fun k ts ls τ => ∃ i nx o u A, k = (60 - i).toNat ∧ ts = [s, .int .i64 C.C, .int .i64 C.W, .slice (some ⟨q, 0, none⟩) C.C.toNat 1, .int .i64 nx, .int .i64 i] ∧ ls = [N.el C 0, oC o] ∧ 0 ≤ i ∧ i ≤ 60 ∧ isA N A τ ∧ Pa C A (1000 + 300 * i) ∧ Alo C o u nx A.w ∧
    τ.get q = some ⟨cells .i64 C.C.toNat u, true⟩ ∧ Ext σ τ) ?_ (n := (60 - 0 : Int).toNat) ⟨0, 0, _, _, A, rfl, rfl, rfl, by omega, by omega, hA1, by simpa using hP, hAl, gq, ext1⟩
  rintro k ts ls τ2 ⟨i, nx, o, u, A2, rfl, rfl, rfl, i0, i1, hA2, hP2, hal, gq2, ext2⟩ R hR
  have hg2 := hg.keep ext2
  have fin : ∀ τ, w_law07_PlaceAlone_j2 (fun v x => v = Value.bool true) [] [] τ := fun τ => by simp only [w_law07_PlaceAlone_j2, w_law07_PlaceAlone_j2b, xMove, xPickT, xPickF, xNil, xFld, xExt0, xExt1, xExt30, xExt31, xExt32, xAdd, xSub, xMul, xEql, xNeq, xLss, xLeq, xGtr, xGeq, xEqPN, xEqNN, xNePN, xNeNN, xEqBB, xNeBB, xNot, xConv, xLen, xMin, xMax, xIfc, xIfT, xIfF, xIfD, xJoinE, xOs, xCs, xFldV, List.getD_cons_zero, List.getD_cons_succ, Nat.zero_add, Nat.reduceAdd, Mem.get_set_same, Mem.set_set, if_true, if_false, Bool.not_true, Bool.not_false, decide_true, decide_false, decide_eq_true_eq, decide_not, Bool.not_eq_true, Bool.false_eq_true, reduceIte, Int.reduceLT, Int.reduceLE, Int.reduceEq, Int.reduceNeg, Int.reduceAdd, Int.reduceSub, locP_e, gBox_a, gBox_i, gBox_b, gBox_p, gLoad_s, gAlloc_s, gStore_a, gStore_i, gStore_b, gStore_p, sub_z, sub_s, lay_z, lay_s, List.length_cons, List.length_nil, Nat.reduceLeDiff, Nat.le_refl, List.drop_zero, List.drop_succ_cons, List.take_succ_cons, List.take_zero, List.drop_nil, List.cons_append, List.nil_append, List.all_cons, List.all_nil, oneB_i, oneB_b, oneB_p, oneB_sl, Bool.and_true, Nat.reduceLT, Nat.lt_irrefl, Nat.zero_lt_one, gBoxE, gBoxC, subE, subEC, subE0, subE1, subE2, subE3, subE4, subE6, subE7, subE8, subC, subC0, subC1, subC2, subC3, subC4, subC5, subC6]
  simp only [w_law07_PlaceAlone_l8, w_law07_PlaceAlone_l8b, hg2.len, xMove, xPickT, xPickF, xNil, xFld, xExt0, xExt1, xExt30, xExt31, xExt32, xAdd, xSub, xMul, xEql, xNeq, xLss, xLeq, xGtr, xGeq, xEqPN, xEqNN, xNePN, xNeNN, xEqBB, xNeBB, xNot, xConv, xLen, xMin, xMax, xIfc, xIfT, xIfF, xIfD, xJoinE, xOs, xCs, xFldV, List.getD_cons_zero, List.getD_cons_succ, Nat.zero_add, Nat.reduceAdd, Mem.get_set_same, Mem.set_set, if_true, if_false, Bool.not_true, Bool.not_false, decide_true, decide_false, decide_eq_true_eq, decide_not, Bool.not_eq_true, Bool.false_eq_true, reduceIte, Int.reduceLT, Int.reduceLE, Int.reduceEq, Int.reduceNeg, Int.reduceAdd, Int.reduceSub, locP_e, gBox_a, gBox_i, gBox_b, gBox_p, gLoad_s, gAlloc_s, gStore_a, gStore_i, gStore_b, gStore_p, sub_z, sub_s, lay_z, lay_s, List.length_cons, List.length_nil, Nat.reduceLeDiff, Nat.le_refl, List.drop_zero, List.drop_succ_cons, List.take_succ_cons, List.take_zero, List.drop_nil, List.cons_append, List.nil_append, List.all_cons, List.all_nil, oneB_i, oneB_b, oneB_p, oneB_sl, Bool.and_true, Nat.reduceLT, Nat.lt_irrefl, Nat.zero_lt_one, gBoxE, gBoxC, subE, subEC, subE0, subE1, subE2, subE3, subE4, subE6, subE7, subE8, subC, subC0, subC1, subC2, subC3, subC4, subC5, subC6]
  by_cases c1 : i < len
  · by_cases c2 : i < 60
    · simp only [c1, c2, w_law07_PlaceAlone_j3, w_law07_PlaceAlone_j3b, xMove, xPickT, xPickF, xNil, xFld, xExt0, xExt1, xExt30, xExt31, xExt32, xAdd, xSub, xMul, xEql, xNeq, xLss, xLeq, xGtr, xGeq, xEqPN, xEqNN, xNePN, xNeNN, xEqBB, xNeBB, xNot, xConv, xLen, xMin, xMax, xIfc, xIfT, xIfF, xIfD, xJoinE, xOs, xCs, xFldV, List.getD_cons_zero, List.getD_cons_succ, Nat.zero_add, Nat.reduceAdd, Mem.get_set_same, Mem.set_set, if_true, if_false, Bool.not_true, Bool.not_false, decide_true, decide_false, decide_eq_true_eq, decide_not, Bool.not_eq_true, Bool.false_eq_true, reduceIte, Int.reduceLT, Int.reduceLE, Int.reduceEq, Int.reduceNeg, Int.reduceAdd, Int.reduceSub, locP_e, gBox_a, gBox_i, gBox_b, gBox_p, gLoad_s, gAlloc_s, gStore_a, gStore_i, gStore_b, gStore_p, sub_z, sub_s, lay_z, lay_s, List.length_cons, List.length_nil, Nat.reduceLeDiff, Nat.le_refl, List.drop_zero, List.drop_succ_cons, List.take_succ_cons, List.take_zero, List.drop_nil, List.cons_append, List.nil_append, List.all_cons, List.all_nil, oneB_i, oneB_b, oneB_p, oneB_sl, Bool.and_true, Nat.reduceLT, Nat.lt_irrefl, Nat.zero_lt_one, gBoxE, gBoxC, subE, subEC, subE0, subE1, subE2, subE3, subE4, subE6, subE7, subE8, subC, subC0, subC1, subC2, subC3, subC4, subC5, subC6]
      rw [hg2.ix i0 c1]
      simp only [andI3, xMove, xPickT, xPickF, xNil, xFld, xExt0, xExt1, xExt30, xExt31, xExt32, xAdd, xSub, xMul, xEql, xNeq, xLss, xLeq, xGtr, xGeq, xEqPN, xEqNN, xNePN, xNeNN, xEqBB, xNeBB, xNot, xConv, xLen, xMin, xMax, xIfc, xIfT, xIfF, xIfD, xJoinE, xOs, xCs, xFldV, List.getD_cons_zero, List.getD_cons_succ, Nat.zero_add, Nat.reduceAdd, Mem.get_set_same, Mem.set_set, if_true, if_false, Bool.not_true, Bool.not_false, decide_true, decide_false, decide_eq_true_eq, decide_not, Bool.not_eq_true, Bool.false_eq_true, reduceIte, Int.reduceLT, Int.reduceLE, Int.reduceEq, Int.reduceNeg, Int.reduceAdd, Int.reduceSub, locP_e, gBox_a, gBox_i, gBox_b, gBox_p, gLoad_s, gAlloc_s, gStore_a, gStore_i, gStore_b, gStore_p, sub_z, sub_s, lay_z, lay_s, List.length_cons, List.length_nil, Nat.reduceLeDiff, Nat.le_refl, List.drop_zero, List.drop_succ_cons, List.take_succ_cons, List.take_zero, List.drop_nil, List.cons_append, List.nil_append, List.all_cons, List.all_nil, oneB_i, oneB_b, oneB_p, oneB_sl, Bool.and_true, Nat.reduceLT, Nat.lt_irrefl, Nat.zero_lt_one, gBoxE, gBoxC, subE, subEC, subE0, subE1, subE2, subE3, subE4, subE6, subE7, subE8, subC, subC0, subC1, subC2, subC3, subC4, subC5, subC6]
      have hk : 0 ≤ g i % 4 ∧ g i % 4 ≤ 3 := by omega
      generalize g i % 4 = c at hk
      refine c_rRoom hk.1 hk.2 fun τ3 x3 => ?_
      have hA3 := hA2.ext x3
      refine c_get7 hN hC hA3 hk.1 hk.2 (by omega) hP2 (fun k p A' => Ph C o u nx c k p A'.w) (fun p A' => Dn C o u nx c p A'.w) ?_ (fun k p A' k0 k1 hf hP' hc hI => hI.step hC hk.1 hk.2 hP'.ok (by omega) hf) (fun p A' h => ?_) fun p A4 τ4 hD hP4 hA4 k4 => ?_
      · refine ⟨rfl, rfl, ?_⟩
        by_cases gd : good C o u c
        · exact .inl ⟨.inl ⟨gd, hal⟩, .inl ⟨rfl, by omega⟩⟩
        · exact .inr ⟨gd, .inl ⟨hal, .inl ⟨rfl, by omega⟩⟩⟩
      · exfalso
        obtain ⟨_, _, ⟨_, h⟩ | ⟨_, ⟨_, h⟩ | h⟩⟩ := h
        · dsimp only at h; omega
        · have := hal.bd; have := hC.C
          rcases h with h | ⟨_, h⟩
          · omega
          · rcases h with h | h | h <;> omega
        · omega
      have ext4 := (ext2.trans x3).keep' k4 hfr.all
      have gq4 := k4.get (x3 _ _ gq2) hqd
      have hc4 : c < (4 : Nat) := by omega
      have hop := hal.op c hk.1 hk.2
      have hbd := hal.bd
      have hr := room_bd hk.1 hk.2
      have hcn : ((C.C.toNat : Nat) : Int) = C.C := by omega
      have nx5 : ∀ (o' u' : Int → Int) (nx' : Int) τ, isA N A4 τ → Alo C o' u' nx' A4.w → τ.get q = some ⟨cells .i64 C.C.toNat u', true⟩ → Ext σ τ → R [s, .int .i64 C.C, .int .i64 C.W, .slice (some ⟨q, 0, none⟩) C.C.toNat 1, .int .i64 nx', .int .i64 (i + 1)] [N.el C 0, oC o'] τ := fun o' u' nx' τ h1 h2 h3 h4 =>
        hR (60 - (i + 1)).toNat _ _ _ (by omega) ⟨i + 1, nx', o', u', A4, rfl, rfl, rfl, by omega, by omega, h1, by rw [show 1000 + 300 * (i + 1) = 1000 + 300 * i + 300 by omega]; exact hP4, h2, h3, h4⟩
      have setE : ∀ b, Ext σ (τ4.set q b) := fun b j e hj => by
        rw [Mem.get_set_ne _ _ (by rintro rfl; rw [hq0] at hj; cases hj)]; exact ext4 j e hj
      have hol : 0 ≤ o c → 0 ≤ u (o c) ∧ u (o c) ≤ C.W := fun h => (hal.old (o c) h hop.2.2).2.2
      have hCC := hC.C
      have hWW := hC.W
      rcases hD with ⟨gd, d1, d2, d3, d4⟩ | ⟨gd, d0, d1, d2, d3, d4⟩ | ⟨gd, d0, d1, d2⟩
      · have gd1 := gd.1
        have gd2 := gd.2
        have ho := hol gd1
        have q1 : ¬ o c < 0 := by omega
        have q2 : ¬ C.W < u (o c) + roomOf c := by omega
        simp only [Pl.spot, d1, d2, d3, gStoreS, w_law07_PlaceAlone_j8, w_law07_PlaceAlone_j8b, xIxA hk.1 hc4, oC, oC_sub hk.1 hk.2, q1, xMove, xPickT, xPickF, xNil, xFld, xExt0, xExt1, xExt30, xExt31, xExt32, xAdd, xSub, xMul, xEql, xNeq, xLss, xLeq, xGtr, xGeq, xEqPN, xEqNN, xNePN, xNeNN, xEqBB, xNeBB, xNot, xConv, xLen, xMin, xMax, xIfc, xIfT, xIfF, xIfD, xJoinE, xOs, xCs, xFldV, List.getD_cons_zero, List.getD_cons_succ, Nat.zero_add, Nat.reduceAdd, Mem.get_set_same, Mem.set_set, if_true, if_false, Bool.not_true, Bool.not_false, decide_true, decide_false, decide_eq_true_eq, decide_not, Bool.not_eq_true, Bool.false_eq_true, reduceIte, Int.reduceLT, Int.reduceLE, Int.reduceEq, Int.reduceNeg, Int.reduceAdd, Int.reduceSub, locP_e, gBox_a, gBox_i, gBox_b, gBox_p, gLoad_s, gAlloc_s, gStore_a, gStore_i, gStore_b, gStore_p, sub_z, sub_s, lay_z, lay_s, List.length_cons, List.length_nil, Nat.reduceLeDiff, Nat.le_refl, List.drop_zero, List.drop_succ_cons, List.take_succ_cons, List.take_zero, List.drop_nil, List.cons_append, List.nil_append, List.all_cons, List.all_nil, oneB_i, oneB_b, oneB_p, oneB_sl, Bool.and_true, Nat.reduceLT, Nat.lt_irrefl, Nat.zero_lt_one, gBoxE, gBoxC, subE, subEC, subE0, subE1, subE2, subE3, subE4, subE6, subE7, subE8, subC, subC0, subC1, subC2, subC3, subC4, subC5, subC6]
        rw [xIxS gd1 (by omega)]
        simp only [xMove, xPickT, xPickF, xNil, xFld, xExt0, xExt1, xExt30, xExt31, xExt32, xAdd, xSub, xMul, xEql, xNeq, xLss, xLeq, xGtr, xGeq, xEqPN, xEqNN, xNePN, xNeNN, xEqBB, xNeBB, xNot, xConv, xLen, xMin, xMax, xIfc, xIfT, xIfF, xIfD, xJoinE, xOs, xCs, xFldV, List.getD_cons_zero, List.getD_cons_succ, Nat.zero_add, Nat.reduceAdd, Mem.get_set_same, Mem.set_set, if_true, if_false, Bool.not_true, Bool.not_false, decide_true, decide_false, decide_eq_true_eq, decide_not, Bool.not_eq_true, Bool.false_eq_true, reduceIte, Int.reduceLT, Int.reduceLE, Int.reduceEq, Int.reduceNeg, Int.reduceAdd, Int.reduceSub, locP_e, gBox_a, gBox_i, gBox_b, gBox_p, gLoad_s, gAlloc_s, gStore_a, gStore_i, gStore_b, gStore_p, sub_z, sub_s, lay_z, lay_s, List.length_cons, List.length_nil, Nat.reduceLeDiff, Nat.le_refl, List.drop_zero, List.drop_succ_cons, List.take_succ_cons, List.take_zero, List.drop_nil, List.cons_append, List.nil_append, List.all_cons, List.all_nil, oneB_i, oneB_b, oneB_p, oneB_sl, Bool.and_true, Nat.reduceLT, Nat.lt_irrefl, Nat.zero_lt_one, gBoxE, gBoxC, subE, subEC, subE0, subE1, subE2, subE3, subE4, subE6, subE7, subE8, subC, subC0, subC1, subC2, subC3, subC4, subC5, subC6]
        rw [ldCells gq4 gd1 (by omega)]
        simp only [xMove, xPickT, xPickF, xNil, xFld, xExt0, xExt1, xExt30, xExt31, xExt32, xAdd, xSub, xMul, xEql, xNeq, xLss, xLeq, xGtr, xGeq, xEqPN, xEqNN, xNePN, xNeNN, xEqBB, xNeBB, xNot, xConv, xLen, xMin, xMax, xIfc, xIfT, xIfF, xIfD, xJoinE, xOs, xCs, xFldV, List.getD_cons_zero, List.getD_cons_succ, Nat.zero_add, Nat.reduceAdd, Mem.get_set_same, Mem.set_set, if_true, if_false, Bool.not_true, Bool.not_false, decide_true, decide_false, decide_eq_true_eq, decide_not, Bool.not_eq_true, Bool.false_eq_true, reduceIte, Int.reduceLT, Int.reduceLE, Int.reduceEq, Int.reduceNeg, Int.reduceAdd, Int.reduceSub, locP_e, gBox_a, gBox_i, gBox_b, gBox_p, gLoad_s, gAlloc_s, gStore_a, gStore_i, gStore_b, gStore_p, sub_z, sub_s, lay_z, lay_s, List.length_cons, List.length_nil, Nat.reduceLeDiff, Nat.le_refl, List.drop_zero, List.drop_succ_cons, List.take_succ_cons, List.take_zero, List.drop_nil, List.cons_append, List.nil_append, List.all_cons, List.all_nil, oneB_i, oneB_b, oneB_p, oneB_sl, Bool.and_true, Nat.reduceLT, Nat.lt_irrefl, Nat.zero_lt_one, gBoxE, gBoxC, subE, subEC, subE0, subE1, subE2, subE3, subE4, subE6, subE7, subE8, subC, subC0, subC1, subC2, subC3, subC4, subC5, subC6]
        rw [IntWalk.i64_in (u (o c) + roomOf c) (by omega)]
        simp only [q2, xMove, xPickT, xPickF, xNil, xFld, xExt0, xExt1, xExt30, xExt31, xExt32, xAdd, xSub, xMul, xEql, xNeq, xLss, xLeq, xGtr, xGeq, xEqPN, xEqNN, xNePN, xNeNN, xEqBB, xNeBB, xNot, xConv, xLen, xMin, xMax, xIfc, xIfT, xIfF, xIfD, xJoinE, xOs, xCs, xFldV, List.getD_cons_zero, List.getD_cons_succ, Nat.zero_add, Nat.reduceAdd, Mem.get_set_same, Mem.set_set, if_true, if_false, Bool.not_true, Bool.not_false, decide_true, decide_false, decide_eq_true_eq, decide_not, Bool.not_eq_true, Bool.false_eq_true, reduceIte, Int.reduceLT, Int.reduceLE, Int.reduceEq, Int.reduceNeg, Int.reduceAdd, Int.reduceSub, locP_e, gBox_a, gBox_i, gBox_b, gBox_p, gLoad_s, gAlloc_s, gStore_a, gStore_i, gStore_b, gStore_p, sub_z, sub_s, lay_z, lay_s, List.length_cons, List.length_nil, Nat.reduceLeDiff, Nat.le_refl, List.drop_zero, List.drop_succ_cons, List.take_succ_cons, List.take_zero, List.drop_nil, List.cons_append, List.nil_append, List.all_cons, List.all_nil, oneB_i, oneB_b, oneB_p, oneB_sl, Bool.and_true, Nat.reduceLT, Nat.lt_irrefl, Nat.zero_lt_one, gBoxE, gBoxC, subE, subEC, subE0, subE1, subE2, subE3, subE4, subE6, subE7, subE8, subC, subC0, subC1, subC2, subC3, subC4, subC5, subC6]
        refine alone5 hN hC hA4 hP4 hk.1 hk.2 i0 c2 gq4 gd hop.2.2 d4 (fun τ e _ hA5 => ?_) hqd
        subst e
        exact nx5 _ _ _ _ hA5 d4 (Mem.get_set_same _ _ _) (setE _)
      · have un := (hal.new nx (Int.le_refl _) d0).2
        have go : w_law07_PlaceAlone_j5 (fun v x => v = Value.bool true) (w_law07_PlaceAlone_j2 fun v x => v = Value.bool true) R (w_law07_PlaceAlone_j4 (fun v x => v = Value.bool true) (w_law07_PlaceAlone_j2 fun v x => v = Value.bool true) R)
            [s, .int .i64 C.C, .int .i64 C.W, .slice (some ⟨q, 0, none⟩) C.C.toNat 1, .int .i64 (nx + 1), .int .i64 i, .int .i64 c, .int .i64 (roomOf c), .bool true] [N.el C 0, cells .i64 4 (upd o c nx), [.int .i64 (C.base nx + u nx), .int .i64 nx]] τ4 := by
          have e : upd o c nx c = nx := upd_same _ _ _
          have := alone5 (K := fun v x => v = Value.bool true) (J2 := w_law07_PlaceAlone_j2 fun v x => v = Value.bool true) (R1 := R) (s := s) (o := upd o c nx) (nx := nx + 1) hN hC hA4 hP4 hk.1 hk.2 i0 c2 gq4 ⟨by rw [e]; exact hbd.1, by rw [e, un]; omega⟩ (by rw [e]; omega) (by rw [e]; exact d4) (fun τ e' _ hA5 => by
            subst e'; rw [e]
            exact nx5 _ _ _ _ (by rw [e] at hA5; exact hA5) d4 (Mem.get_set_same _ _ _) (setE _)) hqd
          rw [e] at this
          exact this
        have q3 : ¬ C.C ≤ nx := by omega
        simp only [Pl.spot, d1, d2, d3, gStoreS, w_law07_PlaceAlone_j8, w_law07_PlaceAlone_j8b, xIxA hk.1 hc4, oC, oC_sub hk.1 hk.2, q3, oC_set hk.1 hk.2, xMove, xPickT, xPickF, xNil, xFld, xExt0, xExt1, xExt30, xExt31, xExt32, xAdd, xSub, xMul, xEql, xNeq, xLss, xLeq, xGtr, xGeq, xEqPN, xEqNN, xNePN, xNeNN, xEqBB, xNeBB, xNot, xConv, xLen, xMin, xMax, xIfc, xIfT, xIfF, xIfD, xJoinE, xOs, xCs, xFldV, List.getD_cons_zero, List.getD_cons_succ, Nat.zero_add, Nat.reduceAdd, Mem.get_set_same, Mem.set_set, if_true, if_false, Bool.not_true, Bool.not_false, decide_true, decide_false, decide_eq_true_eq, decide_not, Bool.not_eq_true, Bool.false_eq_true, reduceIte, Int.reduceLT, Int.reduceLE, Int.reduceEq, Int.reduceNeg, Int.reduceAdd, Int.reduceSub, locP_e, gBox_a, gBox_i, gBox_b, gBox_p, gLoad_s, gAlloc_s, gStore_a, gStore_i, gStore_b, gStore_p, sub_z, sub_s, lay_z, lay_s, List.length_cons, List.length_nil, Nat.reduceLeDiff, Nat.le_refl, List.drop_zero, List.drop_succ_cons, List.take_succ_cons, List.take_zero, List.drop_nil, List.cons_append, List.nil_append, List.all_cons, List.all_nil, oneB_i, oneB_b, oneB_p, oneB_sl, Bool.and_true, Nat.reduceLT, Nat.lt_irrefl, Nat.zero_lt_one, gBoxE, gBoxC, subE, subEC, subE0, subE1, subE2, subE3, subE4, subE6, subE7, subE8, subC, subC0, subC1, subC2, subC3, subC4, subC5, subC6]
        rw [IntWalk.i64_in (nx + 1) (by omega)]
        by_cases q1 : o c < 0
        · rw [if_pos q1]; exact go
        · have ho := hol (by omega)
          have q2 : C.W < u (o c) + roomOf c := by
            have : ¬ (u (o c) + roomOf c ≤ C.W) := fun h => gd ⟨by omega, h⟩
            omega
          rw [if_neg q1, xIxS (by omega) (by omega)]
          simp only [xMove, xPickT, xPickF, xNil, xFld, xExt0, xExt1, xExt30, xExt31, xExt32, xAdd, xSub, xMul, xEql, xNeq, xLss, xLeq, xGtr, xGeq, xEqPN, xEqNN, xNePN, xNeNN, xEqBB, xNeBB, xNot, xConv, xLen, xMin, xMax, xIfc, xIfT, xIfF, xIfD, xJoinE, xOs, xCs, xFldV, List.getD_cons_zero, List.getD_cons_succ, Nat.zero_add, Nat.reduceAdd, Mem.get_set_same, Mem.set_set, if_true, if_false, Bool.not_true, Bool.not_false, decide_true, decide_false, decide_eq_true_eq, decide_not, Bool.not_eq_true, Bool.false_eq_true, reduceIte, Int.reduceLT, Int.reduceLE, Int.reduceEq, Int.reduceNeg, Int.reduceAdd, Int.reduceSub, locP_e, gBox_a, gBox_i, gBox_b, gBox_p, gLoad_s, gAlloc_s, gStore_a, gStore_i, gStore_b, gStore_p, sub_z, sub_s, lay_z, lay_s, List.length_cons, List.length_nil, Nat.reduceLeDiff, Nat.le_refl, List.drop_zero, List.drop_succ_cons, List.take_succ_cons, List.take_zero, List.drop_nil, List.cons_append, List.nil_append, List.all_cons, List.all_nil, oneB_i, oneB_b, oneB_p, oneB_sl, Bool.and_true, Nat.reduceLT, Nat.lt_irrefl, Nat.zero_lt_one, gBoxE, gBoxC, subE, subEC, subE0, subE1, subE2, subE3, subE4, subE6, subE7, subE8, subC, subC0, subC1, subC2, subC3, subC4, subC5, subC6]
          rw [ldCells gq4 (by omega) (by omega)]
          simp only [xMove, xPickT, xPickF, xNil, xFld, xExt0, xExt1, xExt30, xExt31, xExt32, xAdd, xSub, xMul, xEql, xNeq, xLss, xLeq, xGtr, xGeq, xEqPN, xEqNN, xNePN, xNeNN, xEqBB, xNeBB, xNot, xConv, xLen, xMin, xMax, xIfc, xIfT, xIfF, xIfD, xJoinE, xOs, xCs, xFldV, List.getD_cons_zero, List.getD_cons_succ, Nat.zero_add, Nat.reduceAdd, Mem.get_set_same, Mem.set_set, if_true, if_false, Bool.not_true, Bool.not_false, decide_true, decide_false, decide_eq_true_eq, decide_not, Bool.not_eq_true, Bool.false_eq_true, reduceIte, Int.reduceLT, Int.reduceLE, Int.reduceEq, Int.reduceNeg, Int.reduceAdd, Int.reduceSub, locP_e, gBox_a, gBox_i, gBox_b, gBox_p, gLoad_s, gAlloc_s, gStore_a, gStore_i, gStore_b, gStore_p, sub_z, sub_s, lay_z, lay_s, List.length_cons, List.length_nil, Nat.reduceLeDiff, Nat.le_refl, List.drop_zero, List.drop_succ_cons, List.take_succ_cons, List.take_zero, List.drop_nil, List.cons_append, List.nil_append, List.all_cons, List.all_nil, oneB_i, oneB_b, oneB_p, oneB_sl, Bool.and_true, Nat.reduceLT, Nat.lt_irrefl, Nat.zero_lt_one, gBoxE, gBoxC, subE, subEC, subE0, subE1, subE2, subE3, subE4, subE6, subE7, subE8, subC, subC0, subC1, subC2, subC3, subC4, subC5, subC6]
          rw [IntWalk.i64_in (u (o c) + roomOf c) (by omega)]
          simp only [q2, xMove, xPickT, xPickF, xNil, xFld, xExt0, xExt1, xExt30, xExt31, xExt32, xAdd, xSub, xMul, xEql, xNeq, xLss, xLeq, xGtr, xGeq, xEqPN, xEqNN, xNePN, xNeNN, xEqBB, xNeBB, xNot, xConv, xLen, xMin, xMax, xIfc, xIfT, xIfF, xIfD, xJoinE, xOs, xCs, xFldV, List.getD_cons_zero, List.getD_cons_succ, Nat.zero_add, Nat.reduceAdd, Mem.get_set_same, Mem.set_set, if_true, if_false, Bool.not_true, Bool.not_false, decide_true, decide_false, decide_eq_true_eq, decide_not, Bool.not_eq_true, Bool.false_eq_true, reduceIte, Int.reduceLT, Int.reduceLE, Int.reduceEq, Int.reduceNeg, Int.reduceAdd, Int.reduceSub, locP_e, gBox_a, gBox_i, gBox_b, gBox_p, gLoad_s, gAlloc_s, gStore_a, gStore_i, gStore_b, gStore_p, sub_z, sub_s, lay_z, lay_s, List.length_cons, List.length_nil, Nat.reduceLeDiff, Nat.le_refl, List.drop_zero, List.drop_succ_cons, List.take_succ_cons, List.take_zero, List.drop_nil, List.cons_append, List.nil_append, List.all_cons, List.all_nil, oneB_i, oneB_b, oneB_p, oneB_sl, Bool.and_true, Nat.reduceLT, Nat.lt_irrefl, Nat.zero_lt_one, gBoxE, gBoxC, subE, subEC, subE0, subE1, subE2, subE3, subE4, subE6, subE7, subE8, subC, subC0, subC1, subC2, subC3, subC4, subC5, subC6]
          exact go
      · have q3 : C.C ≤ nx := by omega
        have go : w_law07_PlaceAlone_j4 (fun v x => v = Value.bool true) (w_law07_PlaceAlone_j2 fun v x => v = Value.bool true) R
            [s, .int .i64 C.C, .int .i64 C.W, .slice (some ⟨q, 0, none⟩) C.C.toNat 1, .int .i64 nx, .int .i64 i] [N.el C 0, cells .i64 4 o] τ4 := by
          simp only [w_law07_PlaceAlone_j4, w_law07_PlaceAlone_j4b, xMove, xPickT, xPickF, xNil, xFld, xExt0, xExt1, xExt30, xExt31, xExt32, xAdd, xSub, xMul, xEql, xNeq, xLss, xLeq, xGtr, xGeq, xEqPN, xEqNN, xNePN, xNeNN, xEqBB, xNeBB, xNot, xConv, xLen, xMin, xMax, xIfc, xIfT, xIfF, xIfD, xJoinE, xOs, xCs, xFldV, List.getD_cons_zero, List.getD_cons_succ, Nat.zero_add, Nat.reduceAdd, Mem.get_set_same, Mem.set_set, if_true, if_false, Bool.not_true, Bool.not_false, decide_true, decide_false, decide_eq_true_eq, decide_not, Bool.not_eq_true, Bool.false_eq_true, reduceIte, Int.reduceLT, Int.reduceLE, Int.reduceEq, Int.reduceNeg, Int.reduceAdd, Int.reduceSub, locP_e, gBox_a, gBox_i, gBox_b, gBox_p, gLoad_s, gAlloc_s, gStore_a, gStore_i, gStore_b, gStore_p, sub_z, sub_s, lay_z, lay_s, List.length_cons, List.length_nil, Nat.reduceLeDiff, Nat.le_refl, List.drop_zero, List.drop_succ_cons, List.take_succ_cons, List.take_zero, List.drop_nil, List.cons_append, List.nil_append, List.all_cons, List.all_nil, oneB_i, oneB_b, oneB_p, oneB_sl, Bool.and_true, Nat.reduceLT, Nat.lt_irrefl, Nat.zero_lt_one, gBoxE, gBoxC, subE, subEC, subE0, subE1, subE2, subE3, subE4, subE6, subE7, subE8, subC, subC0, subC1, subC2, subC3, subC4, subC5, subC6]
          rw [IntWalk.i64_in (i + 1) (by omega)]
          exact nx5 _ _ _ _ hA4 d2 gq4 ext4
        simp only [Pl.spot, d1, gStoreS, w_law07_PlaceAlone_j8, w_law07_PlaceAlone_j8b, xIxA hk.1 hc4, oC, oC_sub hk.1 hk.2, q3, xMove, xPickT, xPickF, xNil, xFld, xExt0, xExt1, xExt30, xExt31, xExt32, xAdd, xSub, xMul, xEql, xNeq, xLss, xLeq, xGtr, xGeq, xEqPN, xEqNN, xNePN, xNeNN, xEqBB, xNeBB, xNot, xConv, xLen, xMin, xMax, xIfc, xIfT, xIfF, xIfD, xJoinE, xOs, xCs, xFldV, List.getD_cons_zero, List.getD_cons_succ, Nat.zero_add, Nat.reduceAdd, Mem.get_set_same, Mem.set_set, if_true, if_false, Bool.not_true, Bool.not_false, decide_true, decide_false, decide_eq_true_eq, decide_not, Bool.not_eq_true, Bool.false_eq_true, reduceIte, Int.reduceLT, Int.reduceLE, Int.reduceEq, Int.reduceNeg, Int.reduceAdd, Int.reduceSub, locP_e, gBox_a, gBox_i, gBox_b, gBox_p, gLoad_s, gAlloc_s, gStore_a, gStore_i, gStore_b, gStore_p, sub_z, sub_s, lay_z, lay_s, List.length_cons, List.length_nil, Nat.reduceLeDiff, Nat.le_refl, List.drop_zero, List.drop_succ_cons, List.take_succ_cons, List.take_zero, List.drop_nil, List.cons_append, List.nil_append, List.all_cons, List.all_nil, oneB_i, oneB_b, oneB_p, oneB_sl, Bool.and_true, Nat.reduceLT, Nat.lt_irrefl, Nat.zero_lt_one, gBoxE, gBoxC, subE, subEC, subE0, subE1, subE2, subE3, subE4, subE6, subE7, subE8, subC, subC0, subC1, subC2, subC3, subC4, subC5, subC6]
        by_cases q1 : o c < 0
        · rw [if_pos q1]; exact go
        · have ho := hol (by omega)
          have q2 : C.W < u (o c) + roomOf c := by
            have : ¬ (u (o c) + roomOf c ≤ C.W) := fun h => gd ⟨by omega, h⟩
            omega
          rw [if_neg q1, xIxS (by omega) (by omega)]
          simp only [xMove, xPickT, xPickF, xNil, xFld, xExt0, xExt1, xExt30, xExt31, xExt32, xAdd, xSub, xMul, xEql, xNeq, xLss, xLeq, xGtr, xGeq, xEqPN, xEqNN, xNePN, xNeNN, xEqBB, xNeBB, xNot, xConv, xLen, xMin, xMax, xIfc, xIfT, xIfF, xIfD, xJoinE, xOs, xCs, xFldV, List.getD_cons_zero, List.getD_cons_succ, Nat.zero_add, Nat.reduceAdd, Mem.get_set_same, Mem.set_set, if_true, if_false, Bool.not_true, Bool.not_false, decide_true, decide_false, decide_eq_true_eq, decide_not, Bool.not_eq_true, Bool.false_eq_true, reduceIte, Int.reduceLT, Int.reduceLE, Int.reduceEq, Int.reduceNeg, Int.reduceAdd, Int.reduceSub, locP_e, gBox_a, gBox_i, gBox_b, gBox_p, gLoad_s, gAlloc_s, gStore_a, gStore_i, gStore_b, gStore_p, sub_z, sub_s, lay_z, lay_s, List.length_cons, List.length_nil, Nat.reduceLeDiff, Nat.le_refl, List.drop_zero, List.drop_succ_cons, List.take_succ_cons, List.take_zero, List.drop_nil, List.cons_append, List.nil_append, List.all_cons, List.all_nil, oneB_i, oneB_b, oneB_p, oneB_sl, Bool.and_true, Nat.reduceLT, Nat.lt_irrefl, Nat.zero_lt_one, gBoxE, gBoxC, subE, subEC, subE0, subE1, subE2, subE3, subE4, subE6, subE7, subE8, subC, subC0, subC1, subC2, subC3, subC4, subC5, subC6]
          rw [ldCells gq4 (by omega) (by omega)]
          simp only [xMove, xPickT, xPickF, xNil, xFld, xExt0, xExt1, xExt30, xExt31, xExt32, xAdd, xSub, xMul, xEql, xNeq, xLss, xLeq, xGtr, xGeq, xEqPN, xEqNN, xNePN, xNeNN, xEqBB, xNeBB, xNot, xConv, xLen, xMin, xMax, xIfc, xIfT, xIfF, xIfD, xJoinE, xOs, xCs, xFldV, List.getD_cons_zero, List.getD_cons_succ, Nat.zero_add, Nat.reduceAdd, Mem.get_set_same, Mem.set_set, if_true, if_false, Bool.not_true, Bool.not_false, decide_true, decide_false, decide_eq_true_eq, decide_not, Bool.not_eq_true, Bool.false_eq_true, reduceIte, Int.reduceLT, Int.reduceLE, Int.reduceEq, Int.reduceNeg, Int.reduceAdd, Int.reduceSub, locP_e, gBox_a, gBox_i, gBox_b, gBox_p, gLoad_s, gAlloc_s, gStore_a, gStore_i, gStore_b, gStore_p, sub_z, sub_s, lay_z, lay_s, List.length_cons, List.length_nil, Nat.reduceLeDiff, Nat.le_refl, List.drop_zero, List.drop_succ_cons, List.take_succ_cons, List.take_zero, List.drop_nil, List.cons_append, List.nil_append, List.all_cons, List.all_nil, oneB_i, oneB_b, oneB_p, oneB_sl, Bool.and_true, Nat.reduceLT, Nat.lt_irrefl, Nat.zero_lt_one, gBoxE, gBoxC, subE, subEC, subE0, subE1, subE2, subE3, subE4, subE6, subE7, subE8, subC, subC0, subC1, subC2, subC3, subC4, subC5, subC6]
          rw [IntWalk.i64_in (u (o c) + roomOf c) (by omega)]
          simp only [q2, xMove, xPickT, xPickF, xNil, xFld, xExt0, xExt1, xExt30, xExt31, xExt32, xAdd, xSub, xMul, xEql, xNeq, xLss, xLeq, xGtr, xGeq, xEqPN, xEqNN, xNePN, xNeNN, xEqBB, xNeBB, xNot, xConv, xLen, xMin, xMax, xIfc, xIfT, xIfF, xIfD, xJoinE, xOs, xCs, xFldV, List.getD_cons_zero, List.getD_cons_succ, Nat.zero_add, Nat.reduceAdd, Mem.get_set_same, Mem.set_set, if_true, if_false, Bool.not_true, Bool.not_false, decide_true, decide_false, decide_eq_true_eq, decide_not, Bool.not_eq_true, Bool.false_eq_true, reduceIte, Int.reduceLT, Int.reduceLE, Int.reduceEq, Int.reduceNeg, Int.reduceAdd, Int.reduceSub, locP_e, gBox_a, gBox_i, gBox_b, gBox_p, gLoad_s, gAlloc_s, gStore_a, gStore_i, gStore_b, gStore_p, sub_z, sub_s, lay_z, lay_s, List.length_cons, List.length_nil, Nat.reduceLeDiff, Nat.le_refl, List.drop_zero, List.drop_succ_cons, List.take_succ_cons, List.take_zero, List.drop_nil, List.cons_append, List.nil_append, List.all_cons, List.all_nil, oneB_i, oneB_b, oneB_p, oneB_sl, Bool.and_true, Nat.reduceLT, Nat.lt_irrefl, Nat.zero_lt_one, gBoxE, gBoxC, subE, subEC, subE0, subE1, subE2, subE3, subE4, subE6, subE7, subE8, subC, subC0, subC1, subC2, subC3, subC4, subC5, subC6]
          exact go
    · simp only [c1, c2, xMove, xPickT, xPickF, xNil, xFld, xExt0, xExt1, xExt30, xExt31, xExt32, xAdd, xSub, xMul, xEql, xNeq, xLss, xLeq, xGtr, xGeq, xEqPN, xEqNN, xNePN, xNeNN, xEqBB, xNeBB, xNot, xConv, xLen, xMin, xMax, xIfc, xIfT, xIfF, xIfD, xJoinE, xOs, xCs, xFldV, List.getD_cons_zero, List.getD_cons_succ, Nat.zero_add, Nat.reduceAdd, Mem.get_set_same, Mem.set_set, if_true, if_false, Bool.not_true, Bool.not_false, decide_true, decide_false, decide_eq_true_eq, decide_not, Bool.not_eq_true, Bool.false_eq_true, reduceIte, Int.reduceLT, Int.reduceLE, Int.reduceEq, Int.reduceNeg, Int.reduceAdd, Int.reduceSub, locP_e, gBox_a, gBox_i, gBox_b, gBox_p, gLoad_s, gAlloc_s, gStore_a, gStore_i, gStore_b, gStore_p, sub_z, sub_s, lay_z, lay_s, List.length_cons, List.length_nil, Nat.reduceLeDiff, Nat.le_refl, List.drop_zero, List.drop_succ_cons, List.take_succ_cons, List.take_zero, List.drop_nil, List.cons_append, List.nil_append, List.all_cons, List.all_nil, oneB_i, oneB_b, oneB_p, oneB_sl, Bool.and_true, Nat.reduceLT, Nat.lt_irrefl, Nat.zero_lt_one, gBoxE, gBoxC, subE, subEC, subE0, subE1, subE2, subE3, subE4, subE6, subE7, subE8, subC, subC0, subC1, subC2, subC3, subC4, subC5, subC6]; exact fin _
  · simp only [c1, xMove, xPickT, xPickF, xNil, xFld, xExt0, xExt1, xExt30, xExt31, xExt32, xAdd, xSub, xMul, xEql, xNeq, xLss, xLeq, xGtr, xGeq, xEqPN, xEqNN, xNePN, xNeNN, xEqBB, xNeBB, xNot, xConv, xLen, xMin, xMax, xIfc, xIfT, xIfF, xIfD, xJoinE, xOs, xCs, xFldV, List.getD_cons_zero, List.getD_cons_succ, Nat.zero_add, Nat.reduceAdd, Mem.get_set_same, Mem.set_set, if_true, if_false, Bool.not_true, Bool.not_false, decide_true, decide_false, decide_eq_true_eq, decide_not, Bool.not_eq_true, Bool.false_eq_true, reduceIte, Int.reduceLT, Int.reduceLE, Int.reduceEq, Int.reduceNeg, Int.reduceAdd, Int.reduceSub, locP_e, gBox_a, gBox_i, gBox_b, gBox_p, gLoad_s, gAlloc_s, gStore_a, gStore_i, gStore_b, gStore_p, sub_z, sub_s, lay_z, lay_s, List.length_cons, List.length_nil, Nat.reduceLeDiff, Nat.le_refl, List.drop_zero, List.drop_succ_cons, List.take_succ_cons, List.take_zero, List.drop_nil, List.cons_append, List.nil_append, List.all_cons, List.all_nil, oneB_i, oneB_b, oneB_p, oneB_sl, Bool.and_true, Nat.reduceLT, Nat.lt_irrefl, Nat.zero_lt_one, gBoxE, gBoxC, subE, subEC, subE0, subE1, subE2, subE3, subE4, subE6, subE7, subE8, subC, subC0, subC1, subC2, subC3, subC4, subC5, subC6]; exact fin _
end Go.Fl
