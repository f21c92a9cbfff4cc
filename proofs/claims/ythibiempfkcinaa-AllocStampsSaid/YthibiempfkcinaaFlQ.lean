/- The closed evaluator: regions, code, functions. No condition. -/
import Derived.Test.YthibiempfkcinaaFlP
namespace Go.Fl
open Go
set_option linter.unusedVariables false
set_option linter.unusedSimpArgs false

/-- A run does what the operation does. -/
def RunIs (loc : List (Nat × Nat)) (m : XM) (r : Run) : Prop := MOk m ∧ ∀ d args e μ k, r d args e μ k = true → evM loc m d args e μ k = true

def MOkL (loc : List (Nat × Nat)) : List (XO XN) → Prop
  | [] => True
  | o :: l => RunIs loc o.m.m o.m.r ∧ MOkL loc l

theorem MOkL.all {loc : List (Nat × Nat)} : ∀ {l : List (XO XN)}, MOkL loc l → ∀ o ∈ l, RunIs loc o.m.m o.m.r
  | x :: l, h, o, ho => by
    rcases List.mem_cons.1 ho with rfl | ho
    · exact h.1
    · exact MOkL.all h.2 o ho

def XN.sm (x : XN) : Sm := x.m.sm

def XC.ok (loc : List (Nat × Nat)) : XC XN → Prop
  | .seq _ a b | .cond _ a b => a.ok loc ∧ b.ok loc
  | .block _ a | .scope a | .loop _ a => a.ok loc
  | .reg l => MOkL loc l
  | _ => True

theorem evOps_cons {k : En → Mx → Bool} {o : XO XN} {rest : List (XO XN)} {dec : List (Nat × Option Bool)} {e : En} {μ : Mx} : evOps k (o :: rest) dec e μ =
    match o.g with
    | none => evOp o e μ fun e μ => evOps k rest dec e μ
    | some (i, j, w, d) =>
      match dec.lookup j with
      | some (some b) => bif b == w then evOp o e μ fun e μ => evOps k rest dec e μ
        else evOps k rest ((i, none) :: dec) (e.put o.dst undef) μ
      | some none => evOps k rest ((i, none) :: dec) (e.put o.dst undef) μ
      | none => evIf (gvE e d)
          (bif w then evOp o (e.put d (.bool true)) μ fun e μ => evOps k rest ((j, some true) :: dec) e μ
           else evOps k rest ((i, none) :: (j, some true) :: dec) ((e.put d (.bool true)).put o.dst undef) μ)
          (bif w then evOps k rest ((i, none) :: (j, some false) :: dec) ((e.put d (.bool false)).put o.dst undef) μ
           else evOp o (e.put d (.bool false)) μ fun e μ => evOps k rest ((j, some false) :: dec) e μ) := by
  have h : evOps k (o :: rest) dec e μ = Option.rec (motive := fun _ => Bool) (gDo o (evOps k rest) dec e μ) (fun q => gAsk o q.1 q.2.1 q.2.2.1 q.2.2.2 (evOps k rest) dec e μ) o.g := rfl
  rw [h]
  cases hg : o.g with
  | none => rfl
  | some q =>
    obtain ⟨i, j, w, d⟩ := q
    show gAsk o i j w d (evOps k rest) dec e μ = _
    unfold gAsk
    rw [lkD_eq]
    dsimp only
    cases dec.lookup j with
    | none =>
      show gTry o i j w d (evOps k rest) dec e μ = _
      unfold gTry gSkip gDo
      simp only [ptN_eq]
      cases w <;> rfl
    | some b =>
      cases b with
      | none => show gSkip o i (evOps k rest) dec e μ = _; unfold gSkip; rw [ptN_eq]
      | some b =>
        show Bool.rec (motive := fun _ => Bool) (gSkip o i (evOps k rest) dec e μ) (gDo o (evOps k rest) dec e μ) (b == w) = _
        unfold gSkip gDo
        rw [ptN_eq]
        dsimp only
        cases (b == w) <;> rfl

theorem evIf_sound {r : Rn} {v v' : Value} {A B : Bool} {A' B' : Prop} (hv : RV r v v') (hA : A = true → A') (hB : B = true → B') (h : evIf v A B = true) : xIf v' A' B' := by
  unfold evIf at h
  split at h
  · rename_i b
    cases hv
    cases b
    · exact hB h
    · exact hA h
  · cases h

theorem toOs_get {C : Cx} {ops : Array Oper} : ∀ {l : List Oper} {i : Nat} {xl : List (XO Sm)}, toOs C ops i l = some xl → ∀ {o : Oper} {rest : List Oper}, l = o :: rest →
    ∃ x xr, xl = x :: xr ∧ toO C ops i o = some x ∧ toOs C ops (i + 1) rest = some xr := by
  intro l i xl h o rest hl
  subst hl
  simp only [toOs] at h
  split at h
  · rename_i x xr h1 h2; cases h; exact ⟨x, xr, rfl, h1, h2⟩
  · cases h

theorem toO_spec {C : Cx} {ops : Array Oper} {i : Nat} {o : Oper} {x : XO Sm} (h : toO C ops i o = some x) :
    comp C o = some (x.xs, x.m) ∧ (o.dst.all fun d => Nat.blt d C.n) = true ∧ x.dst = o.dst ∧
    ((o.guard = none ∧ x.g = none) ∨ ∃ j w p, o.guard = some (j, w) ∧ ops[j]? = some p ∧ x.g = some (i, j, w, p.dst) ∧ gOk C ops j = true ∧ Nat.blt j i = true) := by
  unfold toO at h
  split at h
  · rename_i xs m hc
    split at h
    · rename_i hd
      split at h
      · rename_i hg; cases h; exact ⟨hc, hd, rfl, .inl ⟨hg, rfl⟩⟩
      · rename_i j w hg
        split at h
        · rename_i hb
          simp only [Bool.and_eq_true] at hb
          split at h
          · rename_i p hp; cases h; exact ⟨hc, hd, rfl, .inr ⟨j, w, p, hg, hp, rfl, hb.1, hb.2⟩⟩
          · cases h
        · cases h
    · cases h
  · cases h

section
variable {C : Cx} {σ0 : Mem}

theorem evOp_sound {o : Oper} {x : XO XN} (hm : RunIs C.loc x.m.m x.m.r) (hc : comp C o = some (x.xs, x.m.sm)) (hd : (o.dst.all fun d => Nat.blt d C.n) = true) (hdst : x.dst = o.dst) {e : En} {s : St} {μ : Mx} {σ : Mem} {r : Rn}
    {k : En → Mx → Bool} {K : St → Mem → Prop} (hs : RS r e s) (hM : RM σ0 r μ σ) (hk : evOp x e μ k = true)
    (post : ∀ e' μ' r' s' σ', k e' μ' = true → r.le r' → RS r' e' s' → RM σ0 r' μ' σ' → K s' σ') : opW C o s σ K := by
  unfold opW
  rw [hc]
  dsimp only
  rw [if_pos hd]
  rw [← hdst]
  unfold evOp at hk
  rw [evAs_eq] at hk
  exact evM_sound hm.1 hs hM (hs.evAs x.xs) (hm.2 _ _ _ _ _ hk) post

theorem evOps_sound {ops : Array Oper} {k : En → Mx → Bool} {K : St → Mem → Prop} :
    ∀ (xl : List (XO XN)) (l : List Oper) (i : Nat) (dec : List (Nat × Option Bool)) (e : En) (s : St) (μ : Mx) (σ : Mem) (r : Rn), toOs C ops i l = some (xl.map (XO.map XN.sm)) → (∀ o ∈ xl, RunIs C.loc o.m.m o.m.r) →
      RS r e s → RM σ0 r μ σ → evOps k xl dec e μ = true → (∀ e' μ' r' s' σ', k e' μ' = true → r.le r' → RS r' e' s' → RM σ0 r' μ' σ' → K s' σ') → opsW C ops K l i dec s σ := by
  intro xl
  induction xl with
  | nil =>
    intro l i dec e s μ σ r ht _ hs hM hk post
    cases l with
    | nil => exact post _ _ _ _ _ hk (Rn.le.refl _) hs hM
    | cons o rest => obtain ⟨x, xr, h, _⟩ := toOs_get ht rfl; cases h
  | cons x xr ih =>
    intro l i dec e s μ σ r ht hmk hs hM hk post
    cases l with
    | nil => simp [toOs] at ht
    | cons o rest =>
      obtain ⟨x', xr', he, h1, h2⟩ := toOs_get ht rfl
      simp only [List.map_cons, List.cons.injEq] at he
      obtain ⟨rfl, rfl⟩ := he
      obtain ⟨hc, hd, hdst, hg⟩ := toO_spec h1
      have hmx : RunIs C.loc x.m.m x.m.r := hmk x (by simp)
      have hmr : ∀ o ∈ xr, RunIs C.loc o.m.m o.m.r := fun o ho => hmk o (by simp [ho])
      have step : ∀ (dec : List (Nat × Option Bool)) (e : En) (s : St), RS r e s → evOp x e μ (fun e μ => evOps k xr dec e μ) = true →
          opW C o s σ fun s σ => opsW C ops K rest (i + 1) dec s σ := fun dec e s hs hk =>
        evOp_sound (x := x) hmx hc hd hdst hs hM hk fun e' μ' r' s' σ' q1 q2 q3 q4 =>
          ih rest (i + 1) dec e' s' μ' σ' r' h2 hmr q3 q4 q1 fun e2 μ2 r2 s2 σ2 p1 p2 p3 p4 => post _ _ _ _ _ p1 (q2.trans p2) p3 p4
      have go : ∀ (dec : List (Nat × Option Bool)) (e : En) (s : St), RS r e s → evOps k xr dec e μ = true → opsW C ops K rest (i + 1) dec s σ := fun dec e s hs hk =>
        ih rest (i + 1) dec e s μ σ r h2 hmr hs hM hk post
      have hx : (XO.map XN.sm x).g = x.g := rfl
      rw [hx] at hg
      have hdst' : x.dst = o.dst := hdst
      rw [evOps_cons] at hk
      unfold opsW
      rcases hg with ⟨g1, g2⟩ | ⟨j, w, p, g1, gp, g2, g3, g4⟩
      · rw [g2] at hk; rw [g1]; exact step _ _ _ hs hk
      · rw [g2] at hk; rw [g1]
        dsimp only at hk ⊢
        rw [if_pos g3]
        have hput : ∀ b, gput ops s j b = s.put p.dst (.bool b) := fun b => by unfold gput; rw [gp]
        have hval : RV r (gvE e p.dst) (gval ops s j) := by
          unfold gval gvE
          rw [gp]
          dsimp only
          cases p.dst with
          | none => exact .undef
          | some d => exact hs.t d
        split at hk
        · rename_i b hl
          rw [hl]
          dsimp only
          cases hbw : (b == w)
          · rw [hbw] at hk
            rw [if_neg (by simp)]
            rw [← hdst']
            exact go _ _ _ (hs.put _ .undef) hk
          · rw [hbw] at hk
            rw [if_pos rfl]
            exact step _ _ _ hs hk
        · rename_i hl
          rw [hl]
          dsimp only
          rw [← hdst']
          exact go _ _ _ (hs.put _ .undef) hk
        · rename_i hl
          rw [hl]
          dsimp only
          rw [if_pos g4]
          rw [hput, hput, ← hdst']
          cases w
          · refine evIf_sound hval (fun h => ?_) (fun h => ?_) hk
            · exact go _ _ _ ((hs.put _ (.bool true)).put _ .undef) h
            · exact step _ _ _ (hs.put _ (.bool false)) h
          · refine evIf_sound hval (fun h => ?_) (fun h => ?_) hk
            · exact step _ _ _ (hs.put _ (.bool true)) h
            · exact go _ _ _ ((hs.put _ (.bool false)).put _ .undef) h

theorem fold_get {α : Type} {f : Nat → α} {base : Tr α} : ∀ {l : List Nat} {i : Nat}, (l.foldr (fun k t => t.set k (some (f k))) base).get i = bif l.contains i then some (f i) else base.get i
  | [], i => rfl
  | x :: xs, i => by
    simp only [List.foldr_cons, Tr.get_set, List.contains_cons]
    by_cases e : i = x
    · subst e; simp
    · have : (i == x) = false := by simpa using e
      rw [if_neg e, this, Bool.false_or, fold_get]

theorem mkE_sound {kt kl : List Nat} {e : En} {s : St} {r : Rn} (hs : RS r e s) : RS r (mkE kt kl e) (mkSt kt kl (kt.map s.t) (kl.map s.l)) := by
  refine ⟨fun i => ?_, fun k => ?_⟩
  · unfold mkE En.get mkSt
    dsimp only
    rw [fold_get, fold_get]
    cases hc : kl.contains i with
    | true => simp only [cond_true]; exact .locP i
    | false =>
      cases hc2 : kt.contains i with
      | true => simp only [cond_true, cond_false]; rw [getD_idx (by simpa using hc2)]; exact hs.t i
      | false => simp only [cond_false, Tr.get]; exact .poison
  · unfold mkE En.getL mkSt
    dsimp only
    rw [fold_get]
    cases hc : kl.contains k with
    | true => simp only [cond_true]; rw [getD_idx (by simpa using hc)]; exact hs.l k
    | false => simp only [cond_false, Tr.get]; exact .nil

theorem isLocP_eq {k : Nat} {v : Value} (h : isLocP k v = true) : v = locP k := by
  unfold isLocP at h
  split at h
  · rename_i b; have := Nat.eq_of_beq_eq_true h; subst this; rfl
  · cases h

theorem backE_sound {kt kl : List Nat} (hkeep : keepOk C (kt, kl) = true) {e : En} {s : St} {r : Rn} (hs : RS r e s) {σ : Mem} {k : En → Bool} {R : List Value → List (List Value) → Mem → Prop}
    (hk : backE kt kl e k = true) (hR : k (mkE kt kl e) = true → R (kt.map s.t) (kl.map s.l) σ) : backW C kt kl s σ R := by
  unfold backE at hk
  rw [mkK_eq] at hk
  cases hc : kl.all fun k => isLocP k (e.get k)
  · rw [hc] at hk; cases hk
  · rw [hc] at hk
    unfold backW
    simp only [keepOk, Bool.and_eq_true] at hkeep
    rw [if_pos]
    · exact hR hk
    · simp only [Bool.and_eq_true]
      refine ⟨?_, hkeep.2⟩
      rw [List.all_eq_true] at hc ⊢
      intro x hx
      have h1 := isLocP_eq (hc x hx)
      have h2 := hs.t x
      rw [h1] at h2
      have h3 : s.t x = locP x := by generalize hz : s.t x = z at h2; cases h2; rfl
      have h4 := List.all_eq_true.1 hkeep.1 x hx
      rw [h3]
      simp only [Bool.and_eq_true]
      exact ⟨by simp [isLocP, locP, Nat.beq_refl], h4⟩

theorem ev_sound : ∀ (x : XC XN) (c : Code), toC C c = some (x.map XN.sm) → x.ok C.loc → ∀ {k : Ex → En → Mx → Bool} {Q : Ex → St → Mem → Prop} (e : En) (s : St) (μ : Mx) (σ : Mem) (r : Rn),
    RS r e s → RM σ0 r μ σ → ev x k e μ = true → (∀ a e' μ' r' s' σ', k a e' μ' = true → r.le r' → RS r' e' s' → RM σ0 r' μ' σ' → Q a s' σ') → Wp C c Q s σ := by
  intro x
  induction x with
  | skip =>
    intro c hc _ k Q e s μ σ r hs hM hk post
    have : c = .skip ∨ ∃ l, c = .label l := by
      cases c <;> simp only [toC] at hc <;> (try split at hc) <;> (try split at hc) <;> (try split at hc) <;> simp_all [XC.map]
    rcases this with rfl | ⟨l, rfl⟩
    · exact post _ _ _ _ _ _ hk (Rn.le.refl _) hs hM
    · exact post _ _ _ _ _ _ hk (Rn.le.refl _) hs hM
  | ret =>
    intro c hc _ k Q e s μ σ r hs hM hk post
    have : c = .ret := by
      cases c <;> simp only [toC] at hc <;> (try split at hc) <;> (try split at hc) <;> (try split at hc) <;> simp_all [XC.map]
    subst this
    exact post _ _ _ _ _ _ hk (Rn.le.refl _) hs hM
  | exit i =>
    intro c hc _ k Q e s μ σ r hs hM hk post
    have : c = .exit i := by
      cases c <;> simp only [toC] at hc <;> (try split at hc) <;> (try split at hc) <;> (try split at hc) <;> simp_all [XC.map]
    subst this
    exact post _ _ _ _ _ _ hk (Rn.le.refl _) hs hM
  | seq j a b iha ihb =>
    intro c hc hok k Q e s μ σ r hs hM hk post
    cases c with
    | seq ca cb =>
      simp only [toC] at hc
      split at hc
      · rename_i xa xb h1 h2
        rw [Wp_seq]
        have hab : xa = a.map XN.sm ∧ xb = b.map XN.sm ∧ ((joinKey C ca cb = none ∧ j = none) ∨ ∃ q, joinKey C ca cb = some q ∧ keepOk C q = true ∧ j = some q) := by
          split at hc
          · rename_i q hq
            split at hc
            · rename_i hkq; simp only [XC.map, Option.some.injEq, XC.seq.injEq] at hc; exact ⟨hc.2.1, hc.2.2, .inr ⟨q, hq, hkq, hc.1.symm⟩⟩
            · cases hc
          · rename_i hq; simp only [XC.map, Option.some.injEq, XC.seq.injEq] at hc; exact ⟨hc.2.1, hc.2.2, .inl ⟨hq, hc.1.symm⟩⟩
        obtain ⟨rfl, rfl, hj⟩ := hab
        refine iha ca h1 hok.1 e s μ σ r hs hM hk ?_
        intro ex e' μ' r' s' σ' q1 q2 q3 q4
        cases ex with
        | normal =>
          dsimp only at q1 ⊢
          have fin : ∀ {e2 : En} {s2 : St}, RS r' e2 s2 → ev b k e2 μ' = true → Wp C cb Q s2 σ' := fun hs2 hk2 =>
            ihb cb h2 hok.2 _ _ _ _ _ hs2 q4 hk2 fun a e3 μ3 r3 s3 σ3 p1 p2 p3 p4 => post _ _ _ _ _ _ p1 (q2.trans p2) p3 p4
          unfold thru
          rcases hj with ⟨hq, rfl⟩ | ⟨⟨kt, kl⟩, hq, hkq, rfl⟩
          · rw [hq]; exact fin q3 q1
          · rw [hq]
            exact backE_sound hkq q3 q1 fun h => fin (mkE_sound q3) h
        | exit i => exact post _ _ _ _ _ _ q1 q2 q3 q4
        | ret => exact post _ _ _ _ _ _ q1 q2 q3 q4
      · cases hc
    | _ => simp only [toC] at hc <;> (try split at hc) <;> (try split at hc) <;> (try split at hc) <;> simp_all [XC.map]
  | cond y a b iha ihb =>
    intro c hc hok k Q e s μ σ r hs hM hk post
    cases c with
    | cond cy ca cb =>
      simp only [toC] at hc
      split at hc
      · rename_i xa xb h1 h2
        split at hc
        · rename_i hl
          simp only [XC.map, Option.some.injEq, XC.cond.injEq] at hc
          obtain ⟨rfl, rfl, rfl⟩ := hc
          unfold Wp
          rw [if_pos hl]
          have hk : evX e cy (fun v => evIf v (ev a k e μ) (ev b k e μ)) = true := hk
          rw [evX_eq] at hk
          exact evIf_sound (hs.evA _) (fun h => iha ca h1 hok.1 e s μ σ r hs hM h post) (fun h => ihb cb h2 hok.2 e s μ σ r hs hM h post) hk
        · cases hc
      · cases hc
    | _ => simp only [toC] at hc <;> (try split at hc) <;> (try split at hc) <;> (try split at hc) <;> simp_all [XC.map]
  | block id a iha =>
    intro c hc hok k Q e s μ σ r hs hM hk post
    cases c with
    | block cid ca =>
      simp only [toC] at hc
      split at hc
      · rename_i xa h1
        simp only [XC.map, Option.some.injEq, XC.block.injEq] at hc
        obtain ⟨rfl, rfl⟩ := hc
        refine iha ca h1 hok e s μ σ r hs hM hk ?_
        intro ex e' μ' r' s' σ' q1 q2 q3 q4
        cases ex with
        | normal => exact post _ _ _ _ _ _ q1 q2 q3 q4
        | exit i =>
          have q1 : Bool.rec (motive := fun _ => Bool) (k (.exit i) e' μ') (k .normal e' μ') (Nat.beq i cid) = true := q1
          dsimp only
          cases hb : Nat.beq i cid
          · rw [hb] at q1; exact post _ _ _ _ _ _ q1 q2 q3 q4
          · rw [hb] at q1; exact post _ _ _ _ _ _ q1 q2 q3 q4
        | ret => exact post _ _ _ _ _ _ q1 q2 q3 q4
      · cases hc
    | _ => simp only [toC] at hc <;> (try split at hc) <;> (try split at hc) <;> (try split at hc) <;> simp_all [XC.map]
  | scope a iha =>
    intro c hc hok k Q e s μ σ r hs hM hk post
    cases c with
    | scope ca =>
      simp only [toC] at hc
      split at hc
      · rename_i xa h1
        simp only [XC.map, Option.some.injEq, XC.scope.injEq] at hc
        subst hc
        exact iha ca h1 hok e s μ σ r hs hM hk post
      · cases hc
    | _ => simp only [toC] at hc <;> (try split at hc) <;> (try split at hc) <;> (try split at hc) <;> simp_all [XC.map]
  | loop j a iha =>
    intro c hc hok k Q e s μ σ r hs hM hk post
    obtain ⟨kt, kl⟩ := j
    cases c with
    | loop ca =>
      simp only [toC] at hc
      split at hc
      · rename_i xa q h1 h2
        split at hc
        · rename_i hkq
          simp only [XC.map, Option.some.injEq, XC.loop.injEq] at hc
          obtain ⟨rfl, rfl⟩ := hc
          unfold Wp
          rw [h2]
          dsimp only
          refine backE_sound hkq hs hk fun h => ?_
          have key : ∀ (n : Nat) (e : En) (s : St) (μ : Mx) (σ : Mem) (r1 : Rn), r.le r1 → RS r1 e (mkSt kt kl (kt.map s.t) (kl.map s.l)) → RM σ0 r1 μ σ →
              evLoop (fun R e μ => ev a (kSeq (fun e μ => backE kt kl e fun e => R e μ) k) e μ) n e μ = true →
              xLoop (fun R ts ls σ => Wp C ca (fun e s σ => match e with
                | .normal => backW C kt kl s σ R
                | .exit i => Q (.exit i) s σ
                | .ret => Q .ret s σ) (mkSt kt kl ts ls) σ) (kt.map s.t) (kl.map s.l) σ := by
            intro n
            induction n with
            | zero => intro e s μ σ r1 _ _ _ h; cases h
            | succ n ihn =>
              intro e s μ σ r1 hle hs1 hM1 h
              refine xLoop_fold ?_
              refine iha ca h1 hok e _ μ σ r1 hs1 hM1 h ?_
              intro ex e' μ' r' s' σ' q1 q2 q3 q4
              cases ex with
              | normal => exact backE_sound hkq q3 q1 fun h2 => ihn _ s' _ _ r' (hle.trans q2) (mkE_sound q3) q4 h2
              | exit i => exact post _ _ _ _ _ _ q1 (hle.trans q2) q3 q4
              | ret => exact post _ _ _ _ _ _ q1 (hle.trans q2) q3 q4
          exact key _ _ s _ _ r (Rn.le.refl _) (mkE_sound hs) hM h
        · cases hc
      · cases hc
    | _ => simp only [toC] at hc <;> (try split at hc) <;> (try split at hc) <;> (try split at hc) <;> simp_all [XC.map]
  | reg l =>
    intro c hc hok k Q e s μ σ r hs hM hk post
    cases c with
    | region id ops draw =>
      simp only [toC] at hc
      split at hc
      · rename_i xl h1
        simp only [XC.map, Option.some.injEq, XC.reg.injEq] at hc
        subst hc
        exact evOps_sound l ops.toList 0 [] e s μ σ r h1 hok.all hs hM hk fun e' μ' r' s' σ' q1 q2 q3 q4 => post _ _ _ _ _ _ q1 q2 q3 q4
      · cases hc
    | _ => simp only [toC] at hc <;> (try split at hc) <;> (try split at hc) <;> (try split at hc) <;> simp_all [XC.map]

end
end Go.Fl
