/- What a value of the abstract store is in the world, and that the operations that only compute come to the same there. No condition. -/
import Derived.Test.YthibiempfkcinaaFlB
namespace Go.Fl
open Go
set_option linter.unusedVariables false
set_option linter.unusedSimpArgs false

def Ren.le (ρ ρ' : Ren) : Prop := ∀ i e, ρ i = some e → ρ' i = some e

theorem V.mono {ρ ρ' : Ren} (hr : ρ.le ρ') {v v' : Value} (h : V ρ v v') : V ρ' v v' := by
  induction h with
  | poi v' => exact .poi v'
  | bool b => exact .bool b
  | int k n => exact .int k n
  | str s => exact .str s
  | nilP => exact .nilP
  | ptr h => exact .ptr (hr _ _ h)
  | nilS => exact .nilS
  | sl h hl hc => exact .sl (hr _ _ h) hl hc
  | slE => exact .slE
  | agg h _ ih => exact .agg h ih
  | tup h _ ih => exact .tup h ih
  | nilI => exact .nilI
  | iface t _ ih => exact .iface t ih
  | nilF => exact .nilF

inductive VL (ρ : Ren) : List Value → List Value → Prop
  | nil : VL ρ [] []
  | cons {x x' : Value} {xs xs' : List Value} (h : V ρ x x') (hs : VL ρ xs xs') : VL ρ (x :: xs) (x' :: xs')

theorem VL.mono {ρ ρ' : Ren} (hr : ρ.le ρ') {v v' : List Value} (h : VL ρ v v') : VL ρ' v v' := by
  induction h with
  | nil => exact .nil
  | cons h _ ih => exact .cons (h.mono hr) ih

theorem VL.len {ρ : Ren} {v v' : List Value} (h : VL ρ v v') : v.length = v'.length := by
  induction h with
  | nil => rfl
  | cons _ _ ih => simp [ih]

theorem VL.get {ρ : Ren} {v v' : List Value} (h : VL ρ v v') {i : Nat} {x : Value} (hx : v[i]? = some x) : ∃ x', v'[i]? = some x' ∧ V ρ x x' := by
  induction h generalizing i with
  | nil => simp at hx
  | cons h _ ih =>
    cases i with
    | zero => simp at hx; subst hx; exact ⟨_, by simp, h⟩
    | succ i => simp at hx; obtain ⟨x', h1, h2⟩ := ih hx; exact ⟨x', by simpa using h1, h2⟩

theorem VL.of_get {ρ : Ren} : ∀ {v v' : List Value}, v.length = v'.length → (∀ (i : Nat) (x x' : Value), v[i]? = some x → v'[i]? = some x' → V ρ x x') → VL ρ v v'
  | [], [], _, _ => .nil
  | x :: xs, x' :: xs', hl, h => .cons (h 0 x x' rfl rfl) (VL.of_get (by simpa using hl) fun i y y' hy hy' => h (i + 1) y y' (by simpa using hy) (by simpa using hy'))
  | [], _ :: _, hl, _ => by simp at hl
  | _ :: _, [], hl, _ => by simp at hl

theorem VL.append {ρ : Ren} {a a' b b' : List Value} (h : VL ρ a a') (k : VL ρ b b') : VL ρ (a ++ b) (a' ++ b') := by
  induction h with
  | nil => exact k
  | cons h _ ih => exact .cons h ih

theorem VL.take {ρ : Ren} {a a' : List Value} (h : VL ρ a a') (n : Nat) : VL ρ (a.take n) (a'.take n) := by
  induction h generalizing n with
  | nil => simp; exact .nil
  | cons h _ ih =>
    cases n with
    | zero => simp; exact .nil
    | succ n => simp; exact .cons h (ih n)

theorem VL.drop {ρ : Ren} {a a' : List Value} (h : VL ρ a a') (n : Nat) : VL ρ (a.drop n) (a'.drop n) := by
  induction h generalizing n with
  | nil => simp; exact .nil
  | cons h hs ih =>
    cases n with
    | zero => simp; exact .cons h hs
    | succ n => simp; exact ih n

theorem VL.lay {ρ : Ren} {a a' b b' : List Value} (h : VL ρ a a') (k : VL ρ b b') (off : Nat) : VL ρ (lay a off b) (lay a' off b') := by
  unfold Fl.lay
  rw [k.len]
  exact ((h.take _).append k).append (h.drop _)

theorem V.agg_inv {ρ : Ren} {cs : Array Value} {v' : Value} (h : V ρ (.agg cs) v') : ∃ cs', v' = .agg cs' ∧ VL ρ cs.toList cs'.toList := by
  cases h with
  | agg h hv =>
    rename_i cs'
    refine ⟨cs', rfl, VL.of_get (by simpa using h) fun i x x' hx hx' => hv i x x' (by simpa using hx) (by simpa using hx')⟩

theorem V.agg_mk {ρ : Ren} {cs cs' : List Value} (h : VL ρ cs cs') : V ρ (.agg cs.toArray) (.agg cs'.toArray) :=
  .agg (by simp [h.len]) fun i v v' hv hv' => by
    obtain ⟨x', h1, h2⟩ := h.get (i := i) (x := v) (by simpa using hv)
    have : v' = x' := by simpa [h1] using hv'.symm
    exact this ▸ h2

theorem V.agg_mk' {ρ : Ren} {cs : List Value} {cs' : Array Value} (h : VL ρ cs cs'.toList) : V ρ (.agg cs.toArray) (.agg cs') := by
  have := V.agg_mk h
  simpa using this

theorem V.tup_mk {ρ : Ren} {cs cs' : List Value} (h : VL ρ cs cs') : V ρ (.tuple cs.toArray) (.tuple cs'.toArray) :=
  .tup (by simp [h.len]) fun i v v' hv hv' => by
    obtain ⟨x', h1, h2⟩ := h.get (i := i) (x := v) (by simpa using hv)
    have : v' = x' := by simpa [h1] using hv'.symm
    exact this ▸ h2

theorem V.undef {ρ : Ren} : V ρ undef undef := by
  have := V.tup_mk (ρ := ρ) (cs := []) (cs' := []) .nil
  simpa [Go.undef] using this

theorem V.tup_inv {ρ : Ren} {cs : Array Value} {v' : Value} (h : V ρ (.tuple cs) v') (hs : cs.size ≠ 1) : ∃ cs', v' = .tuple cs' ∧ VL ρ cs.toList cs'.toList := by
  cases h with
  | poi _ => simp at hs
  | tup h hv =>
    rename_i cs'
    refine ⟨cs', rfl, VL.of_get (by simpa using h) fun i x x' hx hx' => hv i x x' (by simpa using hx) (by simpa using hx')⟩

theorem V.const {ρ : Ren} {v : Value} (h : constOk v = true) : V ρ v v := by
  unfold constOk at h
  split at h
  · exact .bool _
  · exact .int _ _
  · exact .str _
  · exact .nilP
  · exact .nilS
  · exact .nilI
  · exact .nilF
  · cases h

theorem sub_sound {ρ : Ren} {cs cs' : List Value} (h : VL ρ cs cs') {off sz : Nat} {ag : Bool} {v : Value} (hs : sub cs off sz ag = some v) :
    off + sz ≤ cs'.length ∧ ∃ v', (if ag then some (.agg ((cs'.drop off).take sz).toArray) else cs'[off]?) = some v' ∧ V ρ v v' := by
  unfold sub at hs
  split at hs
  · rename_i hle
    refine ⟨h.len ▸ hle, ?_⟩
    cases ag
    · obtain ⟨x', h1, h2⟩ := h.get hs
      exact ⟨x', h1, h2⟩
    · cases hs
      exact ⟨_, rfl, V.agg_mk ((h.drop _).take _)⟩
  · cases hs

/-! ### The operations that only compute -/

section
variable {P : Program} {w : World} {ρ : Ren}

theorem run_underlying' {t : TypeId} {d : TypeDesc} (h : P.underlying t = some d) : (underlying t).run P w = .ok d w := by
  simp [underlying, h]

theorem run_typeInfo' {t : TypeId} {i : TypeInfo} (h : P.info? t = some i) : (typeInfo t).run P w = .ok i w := by
  simp [typeInfo, h]

theorem known_info {t : TypeId} (h : tKnown P t = true) : ∃ i, P.info? t = some i := by
  simp only [tKnown, Bool.and_eq_true] at h
  exact Option.isSome_iff_exists.1 h.2

theorem known_desc {t : TypeId} (h : tKnown P t = true) : ∃ d, P.underlying t = some d := by
  simp only [tKnown, Bool.and_eq_true] at h
  exact Option.isSome_iff_exists.1 h.1

theorem run_sizeOf' {t : TypeId} (h : tKnown P t = true) : (sizeOf t).run P w = .ok (tSz P t) w := by
  obtain ⟨i, hi⟩ := known_info h
  simp [sizeOf, typeInfo, hi, tSz, Program.cellsOf]

theorem run_isAgg' {t : TypeId} (h : tKnown P t = true) : (isAgg t).run P w = .ok (tAgg P t) w := by
  obtain ⟨d, hd⟩ := known_desc h
  simp only [isAgg, Sem.run_bind, run_underlying' hd, Result.andThen_ok, tAgg, hd]
  cases d <;> rfl

theorem run_part' {t : TypeId} (h : tKnown P t = true) (cs : Array Value) (off : Nat) (hl : off + tSz P t ≤ cs.size) {v : Value}
    (hv : (if tAgg P t then some (.agg ((cs.toList.drop off).take (tSz P t)).toArray) else cs.toList[off]?) = some v) : (part t cs off).run P w = .ok v w := by
  simp only [part, Sem.run_bind, run_isAgg' h, Result.andThen_ok]
  cases hA : tAgg P t
  · simp only [hA, Bool.false_eq_true, if_false] at hv ⊢
    have : cs[off]? = some v := by simpa using hv
    simp [this]
  · simp only [hA, if_true, Option.some.injEq] at hv ⊢
    subst hv
    simp only [Sem.run_bind, run_sizeOf' h, Result.andThen_ok, Sem.run_pure]
    congr 2
    apply Array.ext'
    simp [Array.toList_extract, List.extract_eq_take_drop]


/-- What an operation comes to. -/
def Runs (P : Program) (w : World) (o : Oper) (ev : Operand → Value) (v' : Value) : Prop := (execOp ev o).run P w = .ok (.value v') w

theorem V.int_inv {k : IntKind} {n : Int} {v' : Value} (h : V ρ (.int k n) v') : v' = .int k n := by cases h; rfl
theorem V.bool_inv {b : Bool} {v' : Value} (h : V ρ (.bool b) v') : v' = .bool b := by cases h; rfl

theorem adv_zero (a : Addr) : adv a 0 = a := by cases a; rfl
theorem add_adv {a : Addr} (h : a.spot = none) (n : Nat) : a.add n = adv a n := by
  unfold Addr.add adv
  split
  · rename_i h0; subst h0; cases a; rfl
  · cases a; simp at h; subst h; rfl

theorem V.ptr_inv {a : Addr} {v' : Value} (h : V ρ (.pointer (some a)) v') : ∃ a', v' = .pointer (some a') ∧ a'.spot = none ∧ a.spot = none ∧ ∀ n, V ρ (.pointer (some (adv a n))) (.pointer (some (adv a' n))) := by
  cases h with
  | ptr h =>
    refine ⟨_, rfl, rfl, rfl, fun n => ?_⟩
    simpa [adv, Nat.add_assoc] using V.ptr (o := _ + n) h

theorem VL.one {x : Value} {xs' : List Value} (h : VL ρ [x] xs') : ∃ x', xs' = [x'] ∧ V ρ x x' := by
  cases h with
  | cons h hs => cases hs; exact ⟨_, rfl, h⟩

theorem VL.two {x y : Value} {xs' : List Value} (h : VL ρ [x, y] xs') : ∃ x' y', xs' = [x', y'] ∧ V ρ x x' ∧ V ρ y y' := by
  cases h with
  | cons h hs => obtain ⟨y', rfl, hy⟩ := hs.one; exact ⟨_, _, rfl, h, hy⟩

theorem VL.three {x y z : Value} {xs' : List Value} (h : VL ρ [x, y, z] xs') : ∃ x' y' z', xs' = [x', y', z'] ∧ V ρ x x' ∧ V ρ y y' ∧ V ρ z z' := by
  cases h with
  | cons h hs => obtain ⟨y', z', rfl, hy, hz⟩ := hs.two; exact ⟨_, _, _, rfl, h, hy, hz⟩

theorem VL.nil_inv {xs' : List Value} (h : VL ρ [] xs') : xs' = [] := by cases h; rfl

theorem map_one {α β : Type} {f : α → β} {l : List α} {y : β} (h : l.map f = [y]) : ∃ x, l = [x] ∧ f x = y := by
  cases l with
  | nil => cases h
  | cons x xs => cases xs with
    | nil => simp at h; exact ⟨x, rfl, h⟩
    | cons _ _ => simp at h

theorem intCmp_run {op : BinOp} {k : IntKind} {a b : Int} {v : Value} (h : binI op k a b = some v) (hn : isSh op = false) :
    (binOp op 0 (.int k a) (.int k b)).run P w = .ok v w := by
  cases op <;> simp [binI, isSh] at h hn <;> simp [binOp, Op.intArith, Op.intDiv, Op.intBits, Op.intCmp, h]
  all_goals first
    | exact h.2
    | skip

theorem binOp_int {op : BinOp} {k : IntKind} {a b : Int} (t : TypeId) (hn : isSh op = false) :
    binOp op t (.int k a) (.int k b) = binOp op 0 (.int k a) (.int k b) := by
  cases op <;> simp [isSh] at hn <;> simp [binOp]

theorem sh_run {op : BinOp} {k k' : IntKind} {a b : Int} {v : Value} (t : TypeId) (hn : isSh op = true) (h : shI op k a b = some v) :
    (binOp op t (.int k a) (.int k' b)).run P w = .ok v w := by
  unfold shI at h
  split at h
  · cases h
  · rename_i hb
    cases op <;> simp [isSh] at hn <;> simp at h <;> subst h <;> simp [binOp, Op.shift, hb]

theorem eqGuard_int {op : BinOp} {t : TypeId} {x y : Operand} {k k' : IntKind} {a b : Int} : (eqGuard op t x y (.int k a) (.int k' b)).run P w = .ok () w := by
  unfold eqGuard
  split <;> rfl


theorem eqFields_run (d : Nat) (xs ys : Array Value) : ∀ (fs : List Field) (i : Nat) (ks : List Bool) (l m : List Value) (r : Bool),
    flatFs P fs i ks = true → xs.toList.drop i = l → ys.toList.drop i = m → eqCells ks l m = some r → (Op.eqFields (d + 1) xs ys fs).run P w = .ok r w := by
  intro fs
  induction fs with
  | nil =>
    intro i ks l m r hf hl hm he
    cases ks with
    | nil =>
      cases l with
      | nil => cases m with
        | nil => simp [eqCells] at he; subst he; simp [Op.eqFields]
        | cons _ _ => simp [eqCells] at he
      | cons _ _ => simp [eqCells] at he
    | cons _ _ => simp [flatFs] at hf
  | cons f fs ih =>
    intro i ks l m r hf hl hm he
    cases ks with
    | nil => simp [flatFs] at hf
    | cons q qs =>
      cases l with
      | nil => simp [eqCells] at he
      | cons x l => cases m with
        | nil => simp [eqCells] at he
        | cons y m =>
          simp only [flatFs, Bool.and_eq_true, Bool.not_eq_true', beq_eq_false_iff_ne, beq_iff_eq] at hf
          obtain ⟨⟨⟨⟨hn, ho⟩, hk⟩, hq⟩, hr⟩ := hf
          simp only [eqCells] at he
          split at he
          · rename_i b1 b2 he1 he2
            simp at he
            have hx : xs.toList[i]? = some x := by have := congrArg (fun l => l[0]?) hl; simpa using this
            have hy : ys.toList[i]? = some y := by have := congrArg (fun l => l[0]?) hm; simpa using this
            have hl' : xs.toList.drop (i + 1) = l := by have := congrArg List.tail hl; simpa using this
            have hm' : ys.toList.drop (i + 1) = m := by have := congrArg List.tail hm; simpa using this
            have ix : i < xs.size := by have := (List.getElem?_eq_some_iff.1 hx).1; simpa using this
            have iy : i < ys.size := by have := (List.getElem?_eq_some_iff.1 hy).1; simpa using this
            have hA : tAgg P f.type = false := by
              unfold tAgg
              cases hu : P.underlying f.type with
              | none => simp [hu] at hq
              | some dd => cases dd <;> simp [hu] at hq ⊢
            have px : (part f.type xs f.offset).run P w = .ok x w := by
              simp only [part, Sem.run_bind, run_isAgg' hk, Result.andThen_ok, hA, ho]
              have : xs[i]? = some x := by simpa using hx
              simp [this]
            have py : (part f.type ys f.offset).run P w = .ok y w := by
              simp only [part, Sem.run_bind, run_isAgg' hk, Result.andThen_ok, hA, ho]
              have : ys[i]? = some y := by simpa using hy
              simp [this]
            have pe : (Op.equalIn (d + 1) f.type x y).run P w = .ok b1 w := by
              unfold eqCell at he1
              split at he1
              · split at he1
                · rename_i hkk; subst hkk
                  simp at he1; subst he1
                  cases hu : P.underlying f.type with
                  | none => simp [hu] at hq
                  | some dd => cases dd with
                    | int k' => exact run_equalIn_int w d f.type _ k' _ _ hu
                    | _ => simp [hu] at hq
                · cases he1
              · simp at he1; subst he1
                cases hu : P.underlying f.type with
                | none => simp [hu] at hq
                | some dd => cases dd with
                  | bool => exact run_equalIn_bool' w d f.type _ _ hu
                  | _ => simp [hu] at hq
              · cases he1
            have ih' := ih (i + 1) qs l m b2 hr hl' hm' he2
            simp only [Op.eqFields, hn, ne_eq, not_false_eq_true, if_true, Sem.run_bind, px, py, pe, Result.andThen_ok]
            cases b1
            · simp at he ⊢; exact he
            · simp at he ⊢; rw [ih', he]
          · cases he

theorem eq_ptr1 (d : Nat) {t e : TypeId} (hu : P.underlying t = some (.pointer e)) (b : Option Addr) :
    (Op.equalIn (d + 1) t (.pointer none) (.pointer b)).run P w = .ok b.isNone w := by
  simp [Op.equalIn, run_underlying' hu]

theorem eq_ptr2 (d : Nat) {t e : TypeId} (hu : P.underlying t = some (.pointer e)) (a : Addr) :
    (Op.equalIn (d + 1) t (.pointer (some a)) (.pointer none)).run P w = .ok false w := by
  simp [Op.equalIn, run_underlying' hu]

theorem eqOk_bool {t : TypeId} (h : eqOk P (t, .bool) = true) : P.underlying t = some .bool := by
  unfold eqOk at h
  cases hu : P.underlying t with
  | none => simp [hu] at h
  | some d => cases d <;> simp [hu] at h ⊢

theorem eqOk_ptr {t : TypeId} (h : eqOk P (t, .ptr) = true) : ∃ e, P.underlying t = some (.pointer e) := by
  unfold eqOk at h
  cases hu : P.underlying t with
  | none => simp [hu] at h
  | some d => cases d <;> simp [hu] at h ⊢

theorem eqOk_flat {t : TypeId} {ks : List Bool} (h : eqOk P (t, .flat ks) = true) :
    ∃ fs, P.underlying t = some (.struct fs) ∧ P.stoodInHeld t = false ∧ P.eqGuardType P.depth t = false ∧ flatFs P fs.toList 0 ks = true := by
  unfold eqOk at h
  cases hu : P.underlying t with
  | none => simp [hu] at h
  | some d =>
    cases d with
    | struct fs => simp [hu] at h; exact ⟨fs, rfl, h.1.1, h.1.2, h.2⟩
    | _ => simp [hu] at h

theorem eq_run {t : TypeId} {q : EqK} (hq : eqOk P (t, q) = true) {x y : Value} {b : Bool} (h : eqV q x y = some b) :
    (Op.equal t x y).run P w = .ok b w := by
  unfold Op.equal Op.maxDepth
  unfold eqV at h
  split at h
  · simp at h; subst h
    exact run_equalIn_bool' w 9999 t _ _ (eqOk_bool hq)
  · simp at h; subst h
    obtain ⟨e, hu⟩ := eqOk_ptr hq
    exact eq_ptr1 9999 hu _
  · simp at h; subst h
    obtain ⟨e, hu⟩ := eqOk_ptr hq
    exact eq_ptr2 9999 hu _
  · obtain ⟨fs, hu, h1, h2, h3⟩ := eqOk_flat hq
    have hf : P.fieldsOf t = fs := by simp [Program.fieldsOf, hu]
    rw [run_equalIn_struct w 9999 t _ _ (by rw [hf]; exact hu) h1, hf]
    exact eqFields_run 9998 _ _ fs.toList 0 _ _ _ b h3 rfl rfl (by simpa using h)
  · cases h

end

end Go.Fl
