/- Two stores that differ by the blocks' numbers: the operations that only compute come to the same. (A number of which only some bits are known: 'tok'.) No condition. -/
import Derived.Test.YthibiempfkcinaaFlL
namespace Go.Fl
open Go
set_option linter.unusedVariables false
set_option linter.unusedSimpArgs false

abbrev Rn := Nat → Option Nat

def Rn.le (r r' : Rn) : Prop := ∀ i j, r i = some j → r' i = some j

/-- A number of which only its bits under a mask are known. -/
def tok (k : IntKind) (m n : Int) : Value := .iface 0 (.tuple #[.int k m, .int k n])

inductive RV (r : Rn) : Value → Value → Prop
  | bool (b : Bool) : RV r (.bool b) (.bool b)
  | int (k : IntKind) (n : Int) : RV r (.int k n) (.int k n)
  | str (s : ByteArray) : RV r (.string s) (.string s)
  | nilP : RV r (.pointer none) (.pointer none)
  | ptr {b o b' : Nat} (h : r b = some b') : RV r (.pointer (some ⟨b, o, none⟩)) (.pointer (some ⟨b', o, none⟩))
  | lptr {b o q : Nat} : RV r (.pointer (some ⟨b, o, some q⟩)) (.pointer (some ⟨b, o, some q⟩))
  | nilS {n c : Nat} : RV r (.slice none n c) (.slice none n c)
  | sl {b o n c b' : Nat} (h : r b = some b') : RV r (.slice (some ⟨b, o, none⟩) n c) (.slice (some ⟨b', o, none⟩) n c)
  | lsl {b o n c q : Nat} : RV r (.slice (some ⟨b, o, some q⟩) n c) (.slice (some ⟨b, o, some q⟩) n c)
  | agg {cs cs' : Array Value} (h : cs.size = cs'.size) (hv : ∀ (i : Nat) (v v' : Value), cs[i]? = some v → cs'[i]? = some v' → RV r v v') : RV r (.agg cs) (.agg cs')
  | tup {cs cs' : Array Value} (h : cs.size = cs'.size) (hv : ∀ (i : Nat) (v v' : Value), cs[i]? = some v → cs'[i]? = some v' → RV r v v') : RV r (.tuple cs) (.tuple cs')
  | nilI : RV r .nilIface .nilIface
  | iface (t : TypeId) {v v' : Value} (h : RV r v v') (hn : isUndef v = false) : RV r (.iface t v) (.iface t v')
  | nilF : RV r .nilFunc .nilFunc
  | tok {k : IntKind} {m n x : Int} (h : binI .and k x m = some (.int k n)) : RV r (tok k m n) (.int k x)

theorem RV.mono {r r' : Rn} (hr : r.le r') {v v' : Value} (h : RV r v v') : RV r' v v' := by
  induction h with
  | bool b => exact .bool b
  | int k n => exact .int k n
  | str s => exact .str s
  | nilP => exact .nilP
  | ptr h => exact .ptr (hr _ _ h)
  | lptr => exact .lptr
  | nilS => exact .nilS
  | sl h => exact .sl (hr _ _ h)
  | lsl => exact .lsl
  | agg h _ ih => exact .agg h ih
  | tup h _ ih => exact .tup h ih
  | nilI => exact .nilI
  | iface t _ hn ih => exact .iface t ih hn
  | nilF => exact .nilF
  | tok h => exact .tok h

inductive RVL (r : Rn) : List Value → List Value → Prop
  | nil : RVL r [] []
  | cons {x x' : Value} {xs xs' : List Value} (h : RV r x x') (hs : RVL r xs xs') : RVL r (x :: xs) (x' :: xs')

variable {r : Rn}

theorem RVL.mono {r' : Rn} (hr : r.le r') {v v' : List Value} (h : RVL r v v') : RVL r' v v' := by
  induction h with
  | nil => exact .nil
  | cons h _ ih => exact .cons (h.mono hr) ih

theorem RVL.len {v v' : List Value} (h : RVL r v v') : v.length = v'.length := by
  induction h with
  | nil => rfl
  | cons _ _ ih => simp [ih]

theorem RVL.get {v v' : List Value} (h : RVL r v v') {i : Nat} {x : Value} (hx : v[i]? = some x) : ∃ x', v'[i]? = some x' ∧ RV r x x' := by
  induction h generalizing i with
  | nil => simp at hx
  | cons h _ ih =>
    cases i with
    | zero => simp at hx; subst hx; exact ⟨_, by simp, h⟩
    | succ i => simp at hx; obtain ⟨x', h1, h2⟩ := ih hx; exact ⟨x', by simpa using h1, h2⟩

theorem RVL.of_get : ∀ {v v' : List Value}, v.length = v'.length → (∀ (i : Nat) (x x' : Value), v[i]? = some x → v'[i]? = some x' → RV r x x') → RVL r v v'
  | [], [], _, _ => .nil
  | x :: xs, x' :: xs', hl, h => .cons (h 0 x x' rfl rfl) (RVL.of_get (by simpa using hl) fun i y y' hy hy' => h (i + 1) y y' (by simpa using hy) (by simpa using hy'))
  | [], _ :: _, hl, _ => by simp at hl
  | _ :: _, [], hl, _ => by simp at hl

theorem RVL.append {a a' b b' : List Value} (h : RVL r a a') (k : RVL r b b') : RVL r (a ++ b) (a' ++ b') := by
  induction h with
  | nil => exact k
  | cons h _ ih => exact .cons h ih

theorem RVL.take {a a' : List Value} (h : RVL r a a') (n : Nat) : RVL r (a.take n) (a'.take n) := by
  induction h generalizing n with
  | nil => simp; exact .nil
  | cons h _ ih =>
    cases n with
    | zero => simp; exact .nil
    | succ n => simp; exact .cons h (ih n)

theorem RVL.drop {a a' : List Value} (h : RVL r a a') (n : Nat) : RVL r (a.drop n) (a'.drop n) := by
  induction h generalizing n with
  | nil => simp; exact .nil
  | cons h hs ih =>
    cases n with
    | zero => simp; exact .cons h hs
    | succ n => simp; exact ih n

theorem RVL.lay {a a' b b' : List Value} (h : RVL r a a') (k : RVL r b b') (off : Nat) : RVL r (lay a off b) (lay a' off b') := by
  unfold Fl.lay
  rw [k.len]
  exact ((h.take _).append k).append (h.drop _)

theorem RV.agg_inv {cs : Array Value} {v' : Value} (h : RV r (.agg cs) v') : ∃ cs', v' = .agg cs' ∧ RVL r cs.toList cs'.toList := by
  cases h with
  | agg h hv =>
    rename_i cs'
    refine ⟨cs', rfl, RVL.of_get (by simpa using h) fun i x x' hx hx' => hv i x x' (by simpa using hx) (by simpa using hx')⟩

theorem RV.agg_mk {cs cs' : List Value} (h : RVL r cs cs') : RV r (.agg cs.toArray) (.agg cs'.toArray) :=
  .agg (by simp [h.len]) fun i v v' hv hv' => by
    obtain ⟨x', h1, h2⟩ := h.get (i := i) (x := v) (by simpa using hv)
    have : v' = x' := by simpa [h1] using hv'.symm
    exact this ▸ h2

theorem RV.tup_mk {cs cs' : List Value} (h : RVL r cs cs') : RV r (.tuple cs.toArray) (.tuple cs'.toArray) :=
  .tup (by simp [h.len]) fun i v v' hv hv' => by
    obtain ⟨x', h1, h2⟩ := h.get (i := i) (x := v) (by simpa using hv)
    have : v' = x' := by simpa [h1] using hv'.symm
    exact this ▸ h2

theorem RV.undef : RV r undef undef := by
  have := RV.tup_mk (r := r) (cs := []) (cs' := []) .nil
  simpa [Go.undef] using this

theorem RV.poison : RV r poison poison := RV.tup_mk (cs := [.nilFunc]) (cs' := [.nilFunc]) (.cons .nilF .nil)

theorem RV.tup_inv {cs : Array Value} {v' : Value} (h : RV r (.tuple cs) v') : ∃ cs', v' = .tuple cs' ∧ RVL r cs.toList cs'.toList := by
  cases h with
  | tup h hv =>
    rename_i cs'
    refine ⟨cs', rfl, RVL.of_get (by simpa using h) fun i x x' hx hx' => hv i x x' (by simpa using hx) (by simpa using hx')⟩

theorem RV.const {v : Value} (h : constOk v = true) : RV r v v := by
  unfold constOk at h
  split at h
  · exact .bool _
  · exact .int _ _
  · exact .str _
  · exact .nilP
  · exact .nilS
  · exact .nilI
  · exact .nilF
  · cases h

theorem RVL.consts : ∀ {l : List Value}, l.all constOk = true → RVL r l l
  | [], _ => .nil
  | x :: xs, h => by simp only [List.all_cons, Bool.and_eq_true] at h; exact .cons (.const h.1) (RVL.consts h.2)

theorem RV.int_inv {k : IntKind} {n : Int} {v' : Value} (h : RV r (.int k n) v') : v' = .int k n := by cases h; rfl
theorem RV.bool_inv {b : Bool} {v' : Value} (h : RV r (.bool b) v') : v' = .bool b := by cases h; rfl
theorem RV.nilP_inv {v' : Value} (h : RV r (.pointer none) v') : v' = .pointer none := by cases h; rfl

theorem RV.ptr_inv {a : Addr} {v' : Value} (h : RV r (.pointer (some a)) v') : ∃ a', v' = .pointer (some a') ∧ a'.off = a.off ∧ ∀ n, RV r (.pointer (some (adv a n))) (.pointer (some (adv a' n))) := by
  cases h with
  | ptr h => exact ⟨_, rfl, rfl, fun n => .ptr h⟩
  | lptr => exact ⟨_, rfl, rfl, fun n => .lptr⟩

theorem RV.sl_inv {a : Option Addr} {n c : Nat} {v' : Value} (h : RV r (.slice a n c) v') : ∃ a', v' = .slice a' n c ∧ a'.isSome = a.isSome ∧
    (∀ ad, a = some ad → ∃ ad', a' = some ad' ∧ (∀ m, RV r (.pointer (some (adv ad m))) (.pointer (some (adv ad' m)))) ∧ ∀ m n' c', RV r (.slice (some (adv ad m)) n' c') (.slice (some (adv ad' m)) n' c')) := by
  cases h with
  | nilS => exact ⟨none, rfl, rfl, fun _ h => by cases h⟩
  | sl h => exact ⟨_, rfl, rfl, fun _ q => by cases q; exact ⟨_, rfl, fun m => .ptr h, fun m n' c' => .sl h⟩⟩
  | lsl => exact ⟨_, rfl, rfl, fun _ q => by cases q; exact ⟨_, rfl, fun m => .lptr, fun m n' c' => .lsl⟩⟩

theorem RVL.one {x : Value} {xs' : List Value} (h : RVL r [x] xs') : ∃ x', xs' = [x'] ∧ RV r x x' := by
  cases h with
  | cons h hs => cases hs; exact ⟨_, rfl, h⟩

theorem RVL.two {x y : Value} {xs' : List Value} (h : RVL r [x, y] xs') : ∃ x' y', xs' = [x', y'] ∧ RV r x x' ∧ RV r y y' := by
  cases h with
  | cons h hs => obtain ⟨y', rfl, hy⟩ := hs.one; exact ⟨_, _, rfl, h, hy⟩

theorem RVL.three {x y z : Value} {xs' : List Value} (h : RVL r [x, y, z] xs') : ∃ x' y' z', xs' = [x', y', z'] ∧ RV r x x' ∧ RV r y y' ∧ RV r z z' := by
  cases h with
  | cons h hs => obtain ⟨y', z', rfl, hy, hz⟩ := hs.two; exact ⟨_, _, _, rfl, h, hy, hz⟩

theorem RVL.nil_inv {xs' : List Value} (h : RVL r [] xs') : xs' = [] := by cases h; rfl

theorem RV.oneB {v v' : Value} (h : RV r v v') : oneB v = oneB v' := by cases h <;> rfl
theorem RV.isUndef {v v' : Value} (h : RV r v v') : isUndef v = isUndef v' := by cases h <;> rfl
theorem RVL.oneB {v v' : List Value} (h : RVL r v v') : v.all Fl.oneB = v'.all Fl.oneB := by
  induction h with
  | nil => rfl
  | cons h _ ih => simp [ih, h.oneB]

theorem RV.cells {v v' : Value} (h : RV r v v') {sz : Nat} {c : List Value} (hc : cellsOf v sz = some c) : ∃ c', cellsOf v' sz = some c' ∧ RVL r c c' := by
  have base : ∀ {v v' : Value}, RV r v v' → ∀ {c : List Value}, (if sz = 1 then some [v] else none) = some c → ∃ c', (if sz = 1 then some [v'] else none) = some c' ∧ RVL r c c' := by
    intro v v' h c hc
    split at hc
    · rename_i h1; cases hc; exact ⟨_, by rw [if_pos h1], .cons h .nil⟩
    · cases hc
  cases h with
  | agg h hv =>
    unfold cellsOf at hc ⊢
    dsimp only at hc ⊢
    split at hc
    · rename_i hs
      cases hc
      exact ⟨_, by rw [if_pos (h ▸ hs)], RVL.of_get (by simpa using h) fun i x x' hx hx' => hv i x x' (by simpa using hx) (by simpa using hx')⟩
    · cases hc
  | tup h hv => cases hc
  | bool b => exact base (.bool b) hc
  | int k n => exact base (.int k n) hc
  | str s => exact base (.str s) hc
  | nilP => exact base .nilP hc
  | ptr h => exact base (.ptr h) hc
  | lptr => exact base .lptr hc
  | nilS => exact base .nilS hc
  | sl h => exact base (.sl h) hc
  | lsl => exact base .lsl hc
  | nilI => exact base .nilI hc
  | iface t h hn => exact base (.iface t h hn) hc
  | nilF => exact base .nilF hc
  | tok h => exact base (.tok h) hc

theorem RVL.sub {cs cs' : List Value} (h : RVL r cs cs') {off sz : Nat} {ag : Bool} {v : Value} (hs : sub cs off sz ag = some v) : ∃ v', Fl.sub cs' off sz ag = some v' ∧ RV r v v' := by
  unfold Fl.sub at hs ⊢
  split at hs
  · rename_i hle
    rw [if_pos (h.len ▸ hle)]
    cases ag
    · obtain ⟨x', h1, h2⟩ := h.get hs
      exact ⟨x', h1, h2⟩
    · cases hs
      exact ⟨_, rfl, RV.agg_mk ((h.drop _).take _)⟩
  · cases hs

theorem RVL.fill {places : Nat → Option (Nat × Nat)} : ∀ {is : List Nat} {cells cells' vs vs' c : List Value}, RVL r cells cells' → RVL r vs vs' → fillL places cells is vs = some c →
    ∃ c', fillL places cells' is vs' = some c' ∧ RVL r c c'
  | [], cells, cells', vs, vs', c, h, hv, hf => by
    cases vs with
    | nil => cases hv; simp [fillL] at hf ⊢; subst hf; exact h
    | cons _ _ => simp [fillL] at hf
  | i :: is, cells, cells', vs, vs', c, h, hv, hf => by
    cases vs with
    | nil => simp [fillL] at hf
    | cons v vs =>
      cases hv with
      | cons hv hvs =>
        simp only [fillL] at hf ⊢
        split at hf
        · rename_i off sz hp
          split at hf
          · rename_i c1 hc1
            obtain ⟨c1', h1, h2⟩ := hv.cells hc1
            rw [h1]
            dsimp only
            split at hf
            · rename_i hle
              rw [if_pos (h.len ▸ hle)]
              exact RVL.fill (h.lay h2 off) hvs hf
            · cases hf
          · cases hf
        · cases hf

/-! ### The operations that only compute -/

def Eqv (f : List Value → Option Value) : Prop := ∀ (r : Rn) args args' v, RVL r args args' → f args = some v → ∃ v', f args' = some v' ∧ RV r v v'

theorem eqv_move : Eqv fMove := by
  intro r args args' v h hf
  unfold fMove at hf
  split at hf
  · obtain ⟨x', rfl, hx⟩ := h.one; cases hf; exact ⟨_, rfl, hx⟩
  · cases hf

theorem eqv_pick : Eqv fPick := by
  intro r args args' v h hf
  unfold fPick at hf
  split at hf
  · obtain ⟨x', y', z', rfl, hx, hy, hz⟩ := h.three; cases hf; cases hx; exact ⟨_, rfl, hy⟩
  · obtain ⟨x', y', z', rfl, hx, hy, hz⟩ := h.three; cases hf; cases hx; exact ⟨_, rfl, hz⟩
  · cases hf

theorem adv0 (a : Addr) : adv a 0 = a := by cases a; rfl

theorem eqv_nil : Eqv fNil := by
  intro r args args' v h hf
  unfold fNil at hf
  split at hf
  · obtain ⟨x', rfl, hx⟩ := h.one; cases hf
    obtain ⟨a', rfl, _, h2⟩ := hx.ptr_inv
    exact ⟨_, rfl, by have := h2 0; rwa [adv0, adv0] at this⟩
  · cases hf

theorem eqv_fld (off : Nat) : Eqv (fFld off) := by
  intro r args args' v h hf
  unfold fFld at hf
  split at hf
  · obtain ⟨x', rfl, hx⟩ := h.one; cases hf
    obtain ⟨a', rfl, _, h2⟩ := hx.ptr_inv
    exact ⟨_, rfl, h2 _⟩
  · cases hf

theorem eqv_fldV (off sz : Nat) (ag : Bool) : Eqv (fFldV off sz ag) := by
  intro r args args' v h hf
  unfold fFldV at hf
  split at hf
  · obtain ⟨x', rfl, hx⟩ := h.one
    obtain ⟨cs', rfl, h2⟩ := hx.agg_inv
    exact h2.sub hf
  · cases hf

theorem eqv_ixS (es : Nat) : Eqv (fIxS es) := by
  intro r args args' v h hf
  unfold fIxS at hf
  split at hf
  · obtain ⟨x', y', rfl, hx, hy⟩ := h.two
    obtain ⟨a', rfl, _, h2⟩ := hx.sl_inv
    obtain ⟨ad', rfl, h3, _⟩ := h2 _ rfl
    cases hy.int_inv
    unfold fIxS; dsimp only
    split at hf
    · rename_i hc; cases hf; rw [if_pos hc]; exact ⟨_, rfl, h3 _⟩
    · cases hf
  · cases hf

theorem eqv_ixA (n es : Nat) : Eqv (fIxA n es) := by
  intro r args args' v h hf
  unfold fIxA at hf
  split at hf
  · obtain ⟨x', y', rfl, hx, hy⟩ := h.two
    obtain ⟨a', rfl, _, h2⟩ := hx.ptr_inv
    cases hy.int_inv
    unfold fIxA; dsimp only
    split at hf
    · rename_i hc; cases hf; rw [if_pos hc]; exact ⟨_, rfl, h2 _⟩
    · cases hf
  · cases hf

theorem eqv_ixV (n es : Nat) (ag : Bool) : Eqv (fIxV n es ag) := by
  intro r args args' v h hf
  unfold fIxV at hf
  split at hf
  · obtain ⟨x', y', rfl, hx, hy⟩ := h.two
    obtain ⟨cs', rfl, h2⟩ := hx.agg_inv
    cases hy.int_inv
    unfold fIxV; dsimp only
    split at hf
    · rename_i hc; rw [if_pos hc]; exact h2.sub hf
    · cases hf
  · cases hf

theorem eqv_ext (ix : Nat) : Eqv (fExt ix) := by
  intro r args args' v h hf
  unfold fExt at hf
  split at hf
  · obtain ⟨x', rfl, hx⟩ := h.one
    obtain ⟨cs', rfl, h2⟩ := hx.tup_inv
    unfold fExt; dsimp only
    have hl := h2.len
    simp only [Array.length_toList] at hl
    split at hf
    · cases hf
    · rename_i hn; rw [if_neg (by rw [← hl]; exact hn)]; exact h2.get hf
  · cases hf

theorem eqCells_RV : ∀ {ks : List Bool} {xs ys xs' ys' : List Value} {b : Bool}, RVL r xs xs' → RVL r ys ys' → eqCells ks xs ys = some b → eqCells ks xs' ys' = some b
  | [], xs, ys, xs', ys', b, h, k, he => by
    cases xs with
    | nil => cases ys with
      | nil => cases h; cases k; exact he
      | cons _ _ => simp [eqCells] at he
    | cons _ _ => simp [eqCells] at he
  | q :: qs, xs, ys, xs', ys', b, h, k, he => by
    cases xs with
    | nil => simp [eqCells] at he
    | cons x xs => cases ys with
      | nil => simp [eqCells] at he
      | cons y ys =>
        cases h with
        | cons hx hxs => cases k with
          | cons hy hys =>
            simp only [eqCells] at he ⊢
            split at he
            · rename_i b1 b2 h1 h2
              rw [eqCells_RV hxs hys h2]
              have : eqCell q _ _ = some b1 := h1
              unfold eqCell at h1
              split at h1
              · cases hx.int_inv; cases hy.int_inv; rw [this]; exact he
              · cases hx.bool_inv; cases hy.bool_inv; rw [this]; exact he
              · cases h1
            · cases he

theorem eqV_RV {q : EqK} {x y x' y' : Value} {b : Bool} (hx : RV r x x') (hy : RV r y y') (h : eqV q x y = some b) : eqV q x' y' = some b := by
  unfold eqV at h
  split at h
  · cases hx.bool_inv; cases hy.bool_inv; exact h
  · cases hx.nilP_inv
    cases hy <;> exact h
  · cases hy.nilP_inv
    obtain ⟨a', rfl, _⟩ := hx.ptr_inv
    exact h
  · obtain ⟨xs', rfl, h1⟩ := hx.agg_inv
    obtain ⟨ys', rfl, h2⟩ := hy.agg_inv
    exact eqCells_RV h1 h2 h
  · cases h

theorem int2_RV {x y : Value} (f : Value → Value → Option Value) : True := trivial

theorem eqv_bin (op : BinOp) (q : EqK) : Eqv (fBin op q) := by
  intro r args args' v h hf
  have hf0 := hf
  unfold fBin at hf
  split at hf
  · obtain ⟨x', y', rfl, hx, hy⟩ := h.two
    cases hx.int_inv; cases hy.int_inv
    refine ⟨v, hf0, ?_⟩
    split at hf
    · unfold shI at hf
      split at hf
      · cases hf
      · split at hf
        · cases hf; exact .int _ _
        · cases hf; exact .int _ _
        · cases hf
    · split at hf
      · unfold binI at hf
        split at hf
        all_goals first
          | (split at hf <;> cases hf <;> first | exact .int _ _ | exact .bool _)
          | (cases hf <;> first | exact .int _ _ | exact .bool _)
      · cases hf
  · rename_i x y hn
    obtain ⟨x', y', rfl, hx, hy⟩ := h.two
    have key : ∀ b, eqV q x y = some b → eqV q x' y' = some b := fun b hb => eqV_RV hx hy hb
    have hne : ∀ k a k' b, x' = .int k a → y' = .int k' b → eqV q x y = none := by
      intro k a k' b e1 e2
      subst e1; subst e2
      cases he : eqV q x y with
      | none => rfl
      | some b =>
        have := key _ he
        unfold eqV at this
        split at this <;> simp_all
    split at hf
    · cases he : eqV q x y with
      | none => rw [he] at hf; cases hf
      | some b =>
        rw [he] at hf
        cases hf
        refine ⟨.bool b, ?_, .bool b⟩
        unfold fBin
        split
        · rename_i k a k' b' e; cases e; have := hne _ _ _ _ rfl rfl; rw [he] at this; cases this
        · rename_i e; cases e; simp [key _ he]
        · rename_i h1 h2; exact absurd rfl (h2 _ _)
    · cases he : eqV q x y with
      | none => rw [he] at hf; cases hf
      | some b =>
        rw [he] at hf
        cases hf
        refine ⟨.bool !b, ?_, .bool _⟩
        unfold fBin
        split
        · rename_i k a k' b' e; cases e; have := hne _ _ _ _ rfl rfl; rw [he] at this; cases this
        · rename_i e; cases e; simp [key _ he]
        · rename_i h1 h2; exact absurd rfl (h2 _ _)
    · cases hf
  · cases hf

theorem eqv_un (op : UnOp) : Eqv (fUn op) := by
  intro r args args' v h hf
  have hf0 := hf
  unfold fUn at hf
  split at hf
  · obtain ⟨x', rfl, hx⟩ := h.one; cases hx.bool_inv; refine ⟨v, hf0, ?_⟩
    split at hf
    · cases hf; exact .bool _
    · cases hf
  · obtain ⟨x', rfl, hx⟩ := h.one; cases hx.int_inv; refine ⟨v, hf0, ?_⟩
    split at hf
    · cases hf; exact .int _ _
    · cases hf
  · cases hf

theorem eqv_conv (k : IntKind) : Eqv (fConv k) := by
  intro r args args' v h hf
  have hf0 := hf
  unfold fConv at hf
  split at hf
  · obtain ⟨x', rfl, hx⟩ := h.one; cases hx.int_inv; exact ⟨v, hf0, by cases hf; exact .int _ _⟩
  · cases hf

theorem eqv_len : Eqv fLen := by
  intro r args args' v h hf
  unfold fLen at hf
  split at hf
  · obtain ⟨x', rfl, hx⟩ := h.one; obtain ⟨a', rfl, _⟩ := hx.sl_inv; cases hf; exact ⟨_, rfl, .int _ _⟩
  · cases hf

theorem eqv_min : Eqv fMin := by
  intro r args args' v h hf
  have hf0 := hf
  unfold fMin at hf
  split at hf
  · obtain ⟨x', y', rfl, hx, hy⟩ := h.two; cases hx.int_inv; cases hy.int_inv; exact ⟨v, hf0, by cases hf; exact .int _ _⟩
  · cases hf

theorem eqv_max : Eqv fMax := by
  intro r args args' v h hf
  have hf0 := hf
  unfold fMax at hf
  split at hf
  · obtain ⟨x', y', rfl, hx, hy⟩ := h.two; cases hx.int_inv; cases hy.int_inv; exact ⟨v, hf0, by cases hf; exact .int _ _⟩
  · cases hf

theorem iface_RV {t : TypeId} {x x' : Value} (h : RV r x x') (hn : isUndef x = false) : RV r (.iface t x) (.iface t x') := .iface t h hn

theorem resl_RV {es : Nat} {a a' : Option Addr} {n c : Nat} {l h : Int} {v : Value} (hs : RV r (.slice a n c) (.slice a' n c)) (hr : resl es a n c l h = some v) :
    ∃ v', resl es a' n c l h = some v' ∧ RV r v v' := by
  obtain ⟨a1, e1, hsome, h2⟩ := hs.sl_inv
  cases e1
  unfold resl at hr ⊢
  split at hr
  · rename_i hc
    rw [if_pos hc]
    cases a with
    | none =>
      cases a' with
      | none => cases hr; exact ⟨_, rfl, .nilS⟩
      | some _ => cases hsome
    | some ad =>
      obtain ⟨ad', rfl, _, h3⟩ := h2 _ rfl
      dsimp only at hr ⊢
      split at hr
      · rename_i hce; cases hr; rw [if_pos hce]; exact ⟨_, rfl, h3 _ _ _⟩
      · cases hr
  · cases hr

theorem eqv_sl (es : Nat) (lo hi : Bool) : Eqv (fSl es lo hi) := by
  intro r args args' v h hf
  unfold fSl at hf
  split at hf
  · obtain ⟨x', rfl, hx⟩ := h.one
    obtain ⟨a', rfl, _⟩ := hx.sl_inv
    unfold fSl; dsimp only
    split at hf
    · rename_i hc; rw [if_pos hc]; exact resl_RV hx hf
    · cases hf
  · obtain ⟨x', y', rfl, hx, hy⟩ := h.two
    obtain ⟨a', rfl, _⟩ := hx.sl_inv
    cases hy.int_inv
    unfold fSl; dsimp only
    split at hf
    · rename_i hc; rw [if_pos hc]; exact resl_RV hx hf
    · rename_i hc; rw [if_neg hc]
      split at hf
      · rename_i hc; rw [if_pos hc]; exact resl_RV hx hf
      · cases hf
  · obtain ⟨x', y', z', rfl, hx, hy, hz⟩ := h.three
    obtain ⟨a', rfl, _⟩ := hx.sl_inv
    cases hy.int_inv; cases hz.int_inv
    unfold fSl; dsimp only
    split at hf
    · rename_i hc; rw [if_pos hc]; exact resl_RV hx hf
    · cases hf
  · cases hf

theorem eqv_build (places : List (Nat × Nat)) {zero : List Value} (hz : zero.all constOk = true) (idx : List Nat) : Eqv (fBuild places zero idx) := by
  intro r args args' v h hf
  unfold fBuild at hf ⊢
  cases hl : fillL (fun i => places[i]?) zero idx args with
  | none => rw [hl] at hf; cases hf
  | some c =>
    rw [hl] at hf
    cases hf
    obtain ⟨c', h1, h2⟩ := RVL.fill (.consts hz) h hl
    rw [h1]
    exact ⟨_, rfl, RV.agg_mk h2⟩

/-! ### Local blocks -/

theorem gLoad_RV {sz : Nat} {ag : Bool} {args args' cs cs' : List Value} {v : Value} (h : RVL r args args') (hc : RVL r cs cs') (hg : gLoad sz ag args cs = some v) :
    ∃ v', gLoad sz ag args' cs' = some v' ∧ RV r v v' := by
  unfold gLoad at hg
  split at hg
  · obtain ⟨x', rfl, hx⟩ := h.one
    obtain ⟨a', rfl, e, _⟩ := hx.ptr_inv
    unfold gLoad
    dsimp only
    rw [e]
    exact hc.sub hg
  · cases hg

theorem gStore_RV {sz : Nat} {args args' cs cs' c : List Value} (h : RVL r args args') (hc : RVL r cs cs') (hg : gStore sz args cs = some c) :
    ∃ c', gStore sz args' cs' = some c' ∧ RVL r c c' := by
  unfold gStore at hg
  split at hg
  · obtain ⟨x', y', rfl, hx, hy⟩ := h.two
    obtain ⟨a', rfl, e, _⟩ := hx.ptr_inv
    split at hg
    · rename_i c1 hc1
      obtain ⟨c1', h1, h2⟩ := hy.cells hc1
      unfold gStore
      dsimp only
      rw [h1]
      dsimp only
      rw [e]
      split at hg
      · rename_i hcond
        cases hg
        rw [if_pos ⟨hc.len ▸ hcond.1, h2.oneB ▸ hcond.2⟩]
        exact ⟨_, rfl, hc.lay h2 _⟩
      · cases hg
    · cases hg
  · cases hg

theorem gAlloc_RV {z : List Value} (hz : z.all constOk = true) {args args' cs cs' c : List Value} (h : RVL r args args') (hg : gAlloc z args cs = some c) :
    ∃ c', gAlloc z args' cs' = some c' ∧ RVL r c c' := by
  unfold gAlloc at hg
  split at hg
  · cases h; cases hg; exact ⟨_, rfl, .consts hz⟩
  · cases hg

theorem gBox_RV {sz : Nat} {args args' cs cs' c : List Value} (h : RVL r args args') (hg : gBox sz args cs = some c) : ∃ c', gBox sz args' cs' = some c' ∧ RVL r c c' := by
  unfold gBox at hg
  split at hg
  · obtain ⟨x', rfl, hx⟩ := h.one; exact hx.cells hg
  · cases hg

theorem RVL.repl {z : List Value} (hz : z.all constOk = true) : ∀ n, RVL r (List.replicate n z).flatten (List.replicate n z).flatten
  | 0 => by simp; exact .nil
  | n + 1 => by simp only [List.replicate_succ, List.flatten_cons]; exact (RVL.consts hz).append (RVL.repl hz n)

theorem gBuildS_RV {es len : Nat} {zero : List Value} (hz : zero.all constOk = true) {idx : List Nat} {args args' cs cs' c : List Value} (h : RVL r args args') (hg : gBuildS es len zero idx args cs = some c) :
    ∃ c', gBuildS es len zero idx args' cs' = some c' ∧ RVL r c c' := RVL.fill (.repl hz len) h hg

end Go.Fl
