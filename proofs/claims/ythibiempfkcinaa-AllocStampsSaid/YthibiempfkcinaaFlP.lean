/- The closed evaluator tells the truth. No condition. -/
import Derived.Test.YthibiempfkcinaaFlO
namespace Go.Fl
open Go
set_option linter.unusedVariables false
set_option linter.unusedSimpArgs false

/-- The frames agree. -/
structure RS (r : Rn) (e : En) (s : St) : Prop where
  t : ∀ i, RV r (e.get i) (s.t i)
  l : ∀ k, RVL r (e.getL k) (s.l k)

/-- The stores agree; what was there at the beginning (σ0) is untouched. -/
structure RM (σ0 : Mem) (r : Rn) (μ : Mx) (σ : Mem) : Prop where
  m1 : ∀ b cells, μ.t.get b = some cells → ∃ b' cells', r b = some b' ∧ σ.get b' = some ⟨cells', true⟩ ∧ RVL r cells cells'
  m2 : ∀ b1 b2 c1 c2 b', b1 ≠ b2 → μ.t.get b1 = some c1 → μ.t.get b2 = some c2 → r b1 = some b' → r b2 ≠ some b'
  m3 : ∀ b, μ.n ≤ b → μ.t.get b = none ∧ r b = none
  m4 : ∀ i blk, σ0.get i = some blk → σ.get i = some blk
  m5 : ∀ b cells b', μ.t.get b = some cells → r b = some b' → σ0.get b' = none

/-- An evaluator of a function. -/
def EvOk (S : Spec) (V : EvF) : Prop := ∀ (σ0 : Mem) (r : Rn) (μ : Mx) (σ : Mem) (args args' : List Value) (k : Value → Mx → Bool) (Q : Value → Mem → Prop),
  RM σ0 r μ σ → RVL r args args' → V args μ k = true →
    (∀ v μ' r' v' σ', k v μ' = true → r.le r' → RM σ0 r' μ' σ' → RV r' v v' → Q v' σ') → S args' Q σ

theorem Rn.le.refl (r : Rn) : r.le r := fun _ _ h => h
theorem Rn.le.trans {a b c : Rn} (h : a.le b) (k : b.le c) : a.le c := fun i j q => k i j (h i j q)

theorem RS.mono {r r' : Rn} (hr : r.le r') {e : En} {s : St} (h : RS r e s) : RS r' e s := ⟨fun i => (h.t i).mono hr, fun k => (h.l k).mono hr⟩

theorem En.get_put (e : En) (d i : Nat) (v : Value) : (e.put (some d) v).get i = if i = d then v else e.get i := by
  unfold En.put En.get
  dsimp only
  rw [Tr.get_set]
  by_cases h : i = d <;> simp [h]

theorem RS.put {r : Rn} {e : En} {s : St} (h : RS r e s) (d : Option Nat) {v v' : Value} (hv : RV r v v') : RS r (e.put d v) (s.put d v') := by
  cases d with
  | none => exact h
  | some d =>
    refine ⟨fun i => ?_, h.l⟩
    rw [En.get_put]
    simp only [St.put]
    by_cases e : i = d
    · subst e; simp [Nat.beq_refl]; exact hv
    · have : Nat.beq i d = false := by cases q : Nat.beq i d; rfl; exact absurd (Nat.eq_of_beq_eq_true q) e
      rw [if_neg e, this]
      exact h.t i

theorem RS.setL {r : Rn} {e : En} {s : St} (h : RS r e s) (k : Nat) {c c' : List Value} (hv : RVL r c c') : RS r (e.setL k c) (s.setL k c') := by
  refine ⟨h.t, fun i => ?_⟩
  unfold En.setL En.getL
  dsimp only
  rw [Tr.get_set]
  simp only [St.setL]
  by_cases e : i = k
  · subst e; simp [Nat.beq_refl]; exact hv
  · have : Nat.beq i k = false := by cases q : Nat.beq i k; rfl; exact absurd (Nat.eq_of_beq_eq_true q) e
    rw [if_neg e, this]
    exact h.l i

theorem RS.evA {r : Rn} {e : En} {s : St} (h : RS r e s) (x : Operand) : RV r (Fl.evA e x) (evO s x) := by
  cases x with
  | tmp t => exact h.t t
  | const v =>
    simp only [Fl.evA, evO]
    cases hc : constOk v
    · exact .poison
    · exact .const hc
  | _ => exact .poison

theorem RS.evAs {r : Rn} {e : En} {s : St} (h : RS r e s) : ∀ xs : List Operand, RVL r (xs.map (Fl.evA e)) (xs.map (evO s))
  | [] => .nil
  | x :: xs => .cons (h.evA x) (h.evAs xs)

theorem RV.locP {r : Rn} (k : Nat) : RV r (locP k) (locP k) := .lptr
theorem RV.locS {r : Rn} (k n es : Nat) : RV r (locS k n es) (locS k n es) := .lsl

/-! ### The store -/

section
variable {σ0 : Mem} {r : Rn} {μ : Mx} {σ : Mem}

/-- A block that is overwritten. -/
theorem RM.store (h : RM σ0 r μ σ) {b b' : Nat} {cells c c' : List Value} (hb : μ.t.get b = some cells) (hr : r b = some b') (hc : RVL r c c') :
    RM σ0 r ⟨μ.t.set b (some c), μ.n⟩ (σ.set b' ⟨c', true⟩) := by
  have hn : b < μ.n := by
    rcases Nat.lt_or_ge b μ.n with q | q
    · exact q
    · have := (h.m3 b q).1; rw [hb] at this; cases this
  refine ⟨fun x cx hx => ?_, fun b1 b2 c1 c2 y hne h1 h2 h3 => ?_, fun x hx => ?_, fun i blk hi => ?_, fun x cx y hx hy => ?_⟩
  · rw [Tr.get_set] at hx
    split at hx
    · rename_i e; subst e; cases hx
      exact ⟨b', c', hr, by simp [Mem.set], hc⟩
    · rename_i e
      obtain ⟨y, cy, q1, q2, q3⟩ := h.m1 x cx hx
      refine ⟨y, cy, q1, ?_, q3⟩
      have : y ≠ b' := fun e2 => h.m2 b x _ _ b' (Ne.symm e) hb hx hr (by rw [q1, e2])
      simp [Mem.set, this, q2]
  · have g1 : ∃ c, μ.t.get b1 = some c := by
      rw [Tr.get_set] at h1; split at h1
      · rename_i e; subst e; exact ⟨_, hb⟩
      · exact ⟨_, h1⟩
    have g2 : ∃ c, μ.t.get b2 = some c := by
      rw [Tr.get_set] at h2; split at h2
      · rename_i e; subst e; exact ⟨_, hb⟩
      · exact ⟨_, h2⟩
    obtain ⟨_, g1⟩ := g1
    obtain ⟨_, g2⟩ := g2
    exact h.m2 _ _ _ _ _ hne g1 g2 h3
  · refine ⟨?_, (h.m3 x hx).2⟩
    show (μ.t.set b (some c)).get x = none
    rw [Tr.get_set, if_neg (by have : μ.n ≤ x := hx; omega)]
    exact (h.m3 x hx).1
  · have : i ≠ b' := fun e => by have := h.m5 b cells b' hb hr; rw [e, this] at hi; cases hi
    simp [Mem.set, this, h.m4 i blk hi]
  · rw [Tr.get_set] at hx
    split at hx
    · rename_i e; subst e; exact h.m5 x _ _ hb hy
    · exact h.m5 x _ _ hx hy

theorem RM.del (h : RM σ0 r μ σ) {b b' : Nat} {cells : List Value} (hb : μ.t.get b = some cells) (hr : r b = some b') : RM σ0 r ⟨μ.t.set b none, μ.n⟩ (σ.del b') := by
  have g : ∀ x c, (μ.t.set b none).get x = some c → x ≠ b ∧ μ.t.get x = some c := by
    intro x c hx
    rw [Tr.get_set] at hx
    split at hx
    · cases hx
    · rename_i e; exact ⟨e, hx⟩
  refine ⟨fun x cx hx => ?_, fun b1 b2 c1 c2 y hne h1 h2 h3 => h.m2 _ _ _ _ _ hne (g _ _ h1).2 (g _ _ h2).2 h3, fun x hx => ?_, fun i blk hi => ?_, fun x cx y hx hy => h.m5 x _ _ (g _ _ hx).2 hy⟩
  · obtain ⟨e, hx⟩ := g _ _ hx
    obtain ⟨y, cy, q1, q2, q3⟩ := h.m1 x cx hx
    refine ⟨y, cy, q1, ?_, q3⟩
    have : y ≠ b' := fun e2 => h.m2 b x _ _ b' (Ne.symm e) hb hx hr (by rw [q1, e2])
    simp [Mem.del, this, q2]
  · refine ⟨?_, (h.m3 x hx).2⟩
    show (μ.t.set b none).get x = none
    rw [Tr.get_set]
    split
    · rfl
    · exact (h.m3 x hx).1
  · have : i ≠ b' := fun e => by have := h.m5 b cells b' hb hr; rw [e, this] at hi; cases hi
    simp [Mem.del, this, h.m4 i blk hi]

/-- A new block. -/
theorem RM.new (h : RM σ0 r μ σ) {id : Nat} (hid : σ.get id = none) {c c' : List Value} (hc : RVL r c c') :
    ∃ r' : Rn, r.le r' ∧ r' μ.n = some id ∧ RM σ0 r' ⟨μ.t.set μ.n (some c), Nat.succ μ.n⟩ (σ.set id ⟨c', true⟩) := by
  let r' : Rn := fun i => if i = μ.n then some id else r i
  have hle : r.le r' := by
    intro i j hi
    show (if i = μ.n then _ else _) = _
    split
    · rename_i e; rw [e, (h.m3 μ.n (Nat.le_refl _)).2] at hi; cases hi
    · exact hi
  have rn : r' μ.n = some id := by simp [r']
  have ro : ∀ x, x ≠ μ.n → r' x = r x := fun x hx => by simp [r', hx]
  refine ⟨r', hle, rn, fun x cx hx => ?_, fun b1 b2 c1 c2 y hne h1 h2 h3 => ?_, fun x hx => ?_, fun i blk hi => ?_, fun x cx y hx hy => ?_⟩
  · rw [Tr.get_set] at hx
    split at hx
    · rename_i e; subst e; cases hx
      exact ⟨id, c', rn, by simp [Mem.set], hc.mono hle⟩
    · rename_i e
      obtain ⟨y, cy, q1, q2, q3⟩ := h.m1 x cx hx
      refine ⟨y, cy, by rw [ro x e]; exact q1, ?_, q3.mono hle⟩
      have : y ≠ id := fun e2 => by rw [e2, hid] at q2; cases q2
      simp [Mem.set, this, q2]
  · have live : ∀ x c, x ≠ μ.n → (μ.t.set μ.n (some c1)).get x = some c → True := fun _ _ _ _ => trivial
    have im : ∀ x cx, x ≠ μ.n → μ.t.get x = some cx → r' x ≠ some id := by
      intro x cx e hx hy
      obtain ⟨y, cy, q1, q2, q3⟩ := h.m1 x cx hx
      rw [ro x e, q1] at hy
      cases hy
      rw [hid] at q2; cases q2
    rw [Tr.get_set] at h1 h2
    split at h1
    · rename_i e1
      split at h2
      · rename_i e2; exact absurd (e1.trans e2.symm) hne
      · rename_i e2
        rw [e1, rn] at h3; cases h3
        exact im _ _ e2 h2
    · rename_i e1
      split at h2
      · rename_i e2
        intro h4
        rw [e2, rn] at h4; cases h4
        exact im _ _ e1 h1 h3
      · rename_i e2
        rw [ro _ e1] at h3
        rw [ro _ e2]
        exact h.m2 _ _ _ _ _ hne h1 h2 h3
  · have hx' : μ.n < x := hx
    refine ⟨?_, by rw [ro x (by omega)]; exact (h.m3 x (by omega)).2⟩
    show (μ.t.set μ.n (some c)).get x = none
    rw [Tr.get_set, if_neg (by omega)]
    exact (h.m3 x (by omega)).1
  · have : i ≠ id := fun e => by have := h.m4 i blk hi; rw [e, hid] at this; cases this
    simp [Mem.set, this, h.m4 i blk hi]
  · rw [Tr.get_set] at hx
    split at hx
    · rename_i e; subst e
      rw [rn] at hy; cases hy
      cases q : σ0.get id with
      | none => rfl
      | some blk => have := h.m4 _ _ q; rw [hid] at this; cases this
    · rename_i e; rw [ro x e] at hy; exact h.m5 x _ _ hx hy

theorem newX_sound {c c' : List Value} {v v' : Nat → Value} {k : Value → Mx → Bool} {Q : Value → Mem → Prop} (h : RM σ0 r μ σ) (hc : RVL r c c')
    (hv : ∀ (r' : Rn) i j, r' i = some j → RV r' (v i) (v' j)) (hk : newX c v μ k = true)
    (post : ∀ x μ' r' x' σ', k x μ' = true → r.le r' → RM σ0 r' μ' σ' → RV r' x x' → Q x' σ') : newB c' v' Q σ := by
  rw [newX_eq] at hk
  intro id hid
  obtain ⟨r', hle, hn, hm⟩ := h.new hid hc
  exact post _ _ r' _ _ hk hle hm (hv r' _ _ hn)

theorem srcX_sound (h : RM σ0 r μ σ) {es : Nat} {x x' : Value} (hx : RV r x x') {new : List Value} (hs : srcX μ es x = some new) : ∃ new', srcOf σ es x' = some new' ∧ RVL r new new' := by
  unfold srcX at hs
  split at hs
  · cases hx; cases hs; exact ⟨[], rfl, .nil⟩
  · split at hs
    · rename_i b o n c cells hg
      cases hx with
      | sl hb =>
        obtain ⟨b', cells', q1, q2, q3⟩ := h.m1 _ _ hg
        rw [hb] at q1; cases q1
        simp only [srcOf, q2]
        split at hs
        · rename_i hle
          cases hs
          rw [if_pos (q3.len ▸ hle)]
          exact ⟨_, rfl, (q3.drop _).take _⟩
        · cases hs
    · cases hs
  · cases hs

theorem RV.lenS {v v' : Value} (h : RV r v v') (hs : (∃ a n c, v = .slice a n c)) : lenS v = lenS v' := by
  obtain ⟨a, n, c, rfl⟩ := hs
  cases h <;> rfl

theorem appX_sound {es n : Nat} {new new' : List Value} {s s' : Value} {k : Value → Mx → Bool} {Q : Value → Mem → Prop} (h : RM σ0 r μ σ) (hn : RVL r new new') (hs : RV r s s')
    (hk : appX es n new s μ k = true) (post : ∀ x μ' r' x' σ', k x μ' = true → r.le r' → RM σ0 r' μ' σ' → RV r' x x' → Q x' σ') : app es n new' s' Q σ := by
  unfold appX at hk
  split at hk
  · cases hs
    unfold app
    split at hk
    · rename_i h0; rw [if_pos h0]; exact post _ _ r _ _ hk (Rn.le.refl _) h .nilS
    · rename_i h0; rw [if_neg h0]
      split at hk
      · rename_i h1; rw [if_pos h1]
        exact newX_sound h hn (fun r' i j hij => .sl hij) hk post
      · cases hk
  · split at hk
    · rename_i b o len c _x cells hg
      cases hs with
      | @sl _ _ _ _ b' hb =>
        obtain ⟨b2, cells', q1, q2, q3⟩ := h.m1 _ _ hg
        rw [hb] at q1
        have q1 := Option.some.inj q1
        subst q1
        simp only [app, q2]
        split at hk
        · rename_i hc
          rw [if_pos ⟨trivial, hc.1, hc.2.1, q3.len ▸ hc.2.2.1, hc.2.2.2⟩]
          rw [newX_eq] at hk
          intro id hid
          have hid' : (σ.del b').get id = none := by
            simp only [Mem.del]; split
            · rfl
            · exact hid
          obtain ⟨r', hle, hnn, hm⟩ := (h.del hg hb).new hid' ((q3.drop o).append hn)
          have e : (σ.set id ⟨cells'.drop o ++ new', true⟩).del b' = (σ.del b').set id ⟨cells'.drop o ++ new', true⟩ := by
            apply Mem.ext'
            funext i
            have : id ≠ b' := fun e => by rw [e, q2] at hid; cases hid
            simp only [Mem.del, Mem.set]
            by_cases e1 : i = b'
            · subst e1; simp [Ne.symm this]
            · simp [e1]
          dsimp only
          rw [e]
          exact post _ _ r' _ _ hk hle hm (.sl hnn)
        · cases hk
    · cases hk
  · cases hk
end

/-! ### Operations -/

/-- What an operation's run rests on: that what it computes hangs on no block's number; that a callee's evaluator tells the truth. -/
def MOk : XM → Prop
  | .f g => Eqv g
  | .call _ S V => EvOk S V
  | _ => True

theorem freshE_sound {C : Cx} {k : Nat} {r : Rn} {e : En} {s : St} (h : RS r e s) (hf : freshE C.loc k e = true) : freshB C k s = true := by
  unfold freshE at hf
  unfold freshB
  rw [List.all_eq_true] at hf ⊢
  rintro ⟨t, k'⟩ hx
  have := hf _ hx
  dsimp only at this ⊢
  rw [(h.t t).isUndef] at this
  exact this

theorem tokAnd_sound {r : Rn} {args args' : List Value} {v : Value} {q : EqK} (h : RVL r args args') (ht : tokAnd args = some v) (hn : fBin .and q args = none) : fBin .and q args' = some v ∧ RV r v v := by
  unfold tokAnd at ht
  split at ht
  · rename_i cs k m'
    split at ht
    · rename_i k1 m k2 n hcs
      split at ht
      · rename_i hc
        obtain ⟨rfl, rfl, rfl⟩ := hc
        cases ht
        obtain ⟨x', y', rfl, hx, hy⟩ := h.two
        cases hy.int_inv
        have hcs' : cs = #[.int k2 m, .int k2 n] := by apply Array.ext'; simpa using hcs
        subst hcs'
        generalize e : (Value.iface 0 (.tuple #[.int k2 m, .int k2 n])) = z at hx
        cases hx with
        | iface t hv =>
          rename_i hu
          cases e
          cases hu
        | tok hb =>
          unfold tok at e
          cases e
          refine ⟨?_, .int _ _⟩
          unfold fBin
          simp [isSh, hb]
        | _ => cases e
      · cases ht
    · cases ht
  · cases ht

theorem evM_sound {C : Cx} {m : XM} (hm : MOk m) {d : Option Nat} {args args' : List Value} {e : En} {s : St} {μ : Mx} {σ σ0 : Mem} {r : Rn} {k : En → Mx → Bool} {K : St → Mem → Prop}
    (hs : RS r e s) (hM : RM σ0 r μ σ) (ha : RVL r args args') (hk : evM C.loc m d args e μ k = true)
    (post : ∀ e' μ' r' s' σ', k e' μ' = true → r.le r' → RS r' e' s' → RM σ0 r' μ' σ' → K s' σ') : runSm C m.sm d args' s σ K := by
  have fin : ∀ {v v' : Value} {μ' : Mx} {r' : Rn} {σ' : Mem}, k (e.put d v) μ' = true → r.le r' → RM σ0 r' μ' σ' → RV r' v v' → K (s.put d v') σ' :=
    fun h1 h2 h3 h4 => post _ _ _ _ _ h1 h2 ((hs.mono h2).put d h4) h3
  cases m with
  | f g =>
    simp only [evM, pt_eq, ptL_eq, stX_eq] at hk
    simp only [XM.sm, runSm, xF]
    split at hk
    · rename_i v hg
      obtain ⟨v', h1, h2⟩ := hm r _ _ _ ha hg
      rw [h1]
      exact fin hk (Rn.le.refl _) hM h2
    · cases hk
  | band q =>
    simp only [evM, pt_eq, ptL_eq, stX_eq] at hk
    simp only [XM.sm, runSm, xF]
    split at hk
    · rename_i v hg
      obtain ⟨v', h1, h2⟩ := eqv_bin .and q r _ _ _ ha hg
      rw [h1]
      exact fin hk (Rn.le.refl _) hM h2
    · rename_i hg
      split at hk
      · rename_i v ht
        obtain ⟨h1, h2⟩ := tokAnd_sound ha ht hg
        rw [h1]
        exact fin hk (Rn.le.refl _) hM h2
      · cases hk
  | ifc t =>
    simp only [evM, pt_eq, ptL_eq, stX_eq] at hk
    simp only [XM.sm, runSm, xF]
    split at hk
    · rename_i x
      split at hk
      · cases hk
      · rename_i hu
        obtain ⟨x', rfl, hx⟩ := ha.one
        exact fin hk (Rn.le.refl _) hM (iface_RV hx (by simpa using hu))
    · cases hk
  | lr b sz ag =>
    simp only [evM, pt_eq, ptL_eq, stX_eq] at hk
    simp only [XM.sm, runSm, xO]
    split at hk
    · rename_i v hg
      obtain ⟨v', h1, h2⟩ := gLoad_RV ha (hs.l b) hg
      rw [h1]
      exact fin hk (Rn.le.refl _) hM h2
    · cases hk
  | ls b sz =>
    simp only [evM, pt_eq, ptL_eq, stX_eq] at hk
    simp only [XM.sm, runSm, xC]
    split at hk
    · rename_i c hg
      obtain ⟨c', h1, h2⟩ := gStore_RV ha (hs.l b) hg
      rw [h1]
      exact post _ _ _ _ _ hk (Rn.le.refl _) ((hs.setL b h2).put d .undef) hM
    · cases hk
  | la b z =>
    simp only [evM, pt_eq, ptL_eq, stX_eq] at hk
    simp only [XM.sm, runSm, xC]
    split at hk
    · rename_i hc
      simp only [Bool.and_eq_true] at hc
      rw [if_pos (freshE_sound hs hc.2)]
      split at hk
      · rename_i c hg
        obtain ⟨c', h1, h2⟩ := gAlloc_RV (cs' := s.l b) hc.1 ha hg
        rw [h1]
        exact post _ _ _ _ _ hk (Rn.le.refl _) ((hs.setL b h2).put d (.locP b)) hM
      · cases hk
    · cases hk
  | lb b sz =>
    simp only [evM, pt_eq, ptL_eq, stX_eq] at hk
    simp only [XM.sm, runSm, xC]
    split at hk
    · rename_i hc
      rw [if_pos (freshE_sound hs hc)]
      split at hk
      · rename_i c hg
        obtain ⟨c', h1, h2⟩ := gBox_RV (cs' := s.l b) ha hg
        rw [h1]
        exact post _ _ _ _ _ hk (Rn.le.refl _) ((hs.setL b h2).put d (.locP b)) hM
      · cases hk
    · cases hk
  | lB b es len z idx =>
    simp only [evM, pt_eq, ptL_eq, stX_eq] at hk
    simp only [XM.sm, runSm, xC]
    split at hk
    · rename_i hc
      simp only [Bool.and_eq_true] at hc
      rw [if_pos (freshE_sound hs hc.2)]
      split at hk
      · rename_i c hg
        obtain ⟨c', h1, h2⟩ := gBuildS_RV (cs' := s.l b) hc.1 ha hg
        rw [h1]
        exact post _ _ _ _ _ hk (Rn.le.refl _) ((hs.setL b h2).put d (.locS b len es)) hM
      · cases hk
    · cases hk
  | load sz ag =>
    simp only [evM, pt_eq, ptL_eq, stX_eq] at hk
    simp only [XM.sm, runSm]
    split at hk
    · rename_i b o
      split at hk
      · rename_i cells hb
        split at hk
        · rename_i v hv
          obtain ⟨x', rfl, hx⟩ := ha.one
          cases hx with
          | @ptr _ _ b' hr =>
            obtain ⟨b2, cells', q1, q2, q3⟩ := hM.m1 _ _ hb
            rw [hr] at q1
            have q1 := Option.some.inj q1
            subst q1
            obtain ⟨v', h1, h2⟩ := q3.sub hv
            simp only [hLoad, rd, q2, h1]
            exact fin hk (Rn.le.refl _) hM h2
        · cases hk
      · cases hk
    · cases hk
  | store sz =>
    simp only [evM, pt_eq, ptL_eq, stX_eq] at hk
    simp only [XM.sm, runSm]
    split at hk
    · rename_i b o x
      split at hk
      · rename_i cells c hb hc
        split at hk
        · rename_i hcond
          obtain ⟨x', y', rfl, hx, hy⟩ := ha.two
          cases hx with
          | @ptr _ _ b' hr =>
            obtain ⟨b2, cells', q1, q2, q3⟩ := hM.m1 _ _ hb
            rw [hr] at q1
            have q1 := Option.some.inj q1
            subst q1
            obtain ⟨c', h1, h2⟩ := hy.cells hc
            simp only [hStore, wr, q2, h1]
            rw [if_pos ⟨trivial, q3.len ▸ hcond.1, h2.oneB ▸ hcond.2⟩]
            exact fin hk (Rn.le.refl _) (hM.store hb hr (q3.lay h2 o)) .undef
        · cases hk
      · cases hk
    · cases hk
  | alloc z =>
    simp only [evM, pt_eq, ptL_eq, stX_eq] at hk
    simp only [XM.sm, runSm]
    split at hk
    · cases ha
      split at hk
      · rename_i hz
        exact newX_sound hM (.consts hz) (fun r' i j h => .ptr h) hk fun x μ' r' x' σ' h1 h2 h3 h4 => fin h1 h2 h3 h4
      · cases hk
    · cases hk
  | box sz =>
    simp only [evM, pt_eq, ptL_eq, stX_eq] at hk
    simp only [XM.sm, runSm]
    split at hk
    · rename_i x
      split at hk
      · rename_i c hc
        obtain ⟨x', rfl, hx⟩ := ha.one
        obtain ⟨c', h1, h2⟩ := hx.cells hc
        simp only [hBox, h1]
        exact newX_sound hM h2 (fun r' i j h => .ptr h) hk fun x μ' r' x' σ' h1 h2 h3 h4 => fin h1 h2 h3 h4
      · cases hk
    · cases hk
  | bs es len z idx =>
    simp only [evM, pt_eq, ptL_eq, stX_eq] at hk
    simp only [XM.sm, runSm, hBuildS]
    split at hk
    · rename_i hz
      split at hk
      · rename_i c hc
        obtain ⟨c', h1, h2⟩ := RVL.fill (.repl hz len) ha hc
        rw [h1]
        exact newX_sound hM h2 (fun r' i j h => .sl h) hk fun x μ' r' x' σ' h1 h2 h3 h4 => fin h1 h2 h3 h4
      · cases hk
    · cases hk
  | ms es by' z =>
    simp only [evM, pt_eq, ptL_eq, stX_eq] at hk
    simp only [XM.sm, runSm]
    split at hk
    · rename_i n m
      split at hk
      · rename_i hc
        obtain ⟨x', y', rfl, hx, hy⟩ := ha.two
        cases hx.int_inv; cases hy.int_inv
        simp only [hMakeS]
        rw [if_pos hc.1]
        exact newX_sound hM (.repl hc.2 _) (fun r' i j h => .sl h) hk fun x μ' r' x' σ' h1 h2 h3 h4 => fin h1 h2 h3 h4
      · cases hk
    · cases hk
  | app es by' =>
    simp only [evM, pt_eq, ptL_eq, stX_eq] at hk
    simp only [XM.sm, runSm]
    split at hk
    · rename_i sv x
      split at hk
      · rename_i new hn
        split at hk
        · rename_i hc
          obtain ⟨s', x', rfl, hx, hy⟩ := ha.two
          obtain ⟨new', h1, h2⟩ := srcX_sound hM hy hn
          have hl : lenS x = lenS x' := by
            unfold srcX at hn
            split at hn
            · exact hy.lenS ⟨_, _, _, rfl⟩
            · exact hy.lenS ⟨_, _, _, rfl⟩
            · cases hn
          simp only [hAppend, h1]
          rw [if_pos ⟨hc.1, h2.oneB ▸ hc.2⟩, ← hl]
          exact appX_sound hM h2 hx hk fun x μ' r' x' σ' h1 h2 h3 h4 => fin h1 h2 h3 h4
        · cases hk
      · cases hk
    · cases hk
  | appL b es by' =>
    simp only [evM, pt_eq, ptL_eq, stX_eq] at hk
    simp only [XM.sm, runSm]
    split at hk
    · rename_i sv k' n c
      split at hk
      · rename_i hc
        obtain ⟨s', x', rfl, hx, hy⟩ := ha.two
        cases hy
        simp only [hAppendL]
        have hl := hs.l b
        rw [if_pos ⟨hc.1, hl.len ▸ hc.2.1, hl.oneB ▸ hc.2.2⟩]
        exact appX_sound hM hl hx hk fun x μ' r' x' σ' h1 h2 h3 h4 => fin h1 h2 h3 h4
      · cases hk
    · cases hk
  | call c S V =>
    simp only [evM, pt_eq, ptL_eq, stX_eq] at hk
    simp only [XM.sm, runSm]
    exact hm σ0 r μ σ _ _ _ _ hM ha hk fun v μ' r' v' σ' h1 h2 h3 h4 => fin h1 h2 h3 h4

end Go.Fl
