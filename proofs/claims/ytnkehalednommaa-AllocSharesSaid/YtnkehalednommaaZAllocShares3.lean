/- What the claim leans on, part 3: own readings of the program's functions, what they come to, laws of them. No condition. -/
import Derived.Test.YtnkehalednommaaZAllocShares2
namespace Go.Fl
open Go
set_option linter.unusedVariables false
set_option linter.unusedSimpArgs false
theorem Mem.set_set (σ : Mem) (i : Nat) (a b : Blk) : (σ.set i a).set i b = σ.set i b := by
 apply Mem.ext'; funext j; simp only [Mem.set]; split <;> rfl
theorem Mem.set_self {σ : Mem} {i : Nat} {b : Blk} (h : σ.get i = some b) : σ.set i b = σ := by
 apply Mem.ext'; funext j; simp only [Mem.set]; split
 ·rename_i e; rw [e, h]
 ·rfl
theorem Mem.set_comm (σ : Mem) {i j : Nat} (a b : Blk) (h : i ≠ j) : (σ.set i a).set j b = (σ.set j b).set i a := by
 apply Mem.ext'; funext k; simp only [Mem.set]
 by_cases h1 : k = j <;> by_cases h2 : k = i <;> simp [h1, h2]
 ·exact absurd (h2.symm.trans h1) h
 ·intro e; exact absurd e.symm h
 ·intro e; exact absurd e h
@[simp] theorem Mem.get_set_same (σ : Mem) (i : Nat) (b : Blk) : (σ.set i b).get i = some b := by simp [Mem.set]
theorem Mem.get_set_ne (σ : Mem) {i j : Nat} (b : Blk) (h : j ≠ i) : (σ.set i b).get j = σ.get j := by simp [Mem.set, h]
theorem nr {α : Sort _} {a b : α} (h : a = b) : a = b := h
section
variable {K : Value → Prop} {x y z : Value} {b o off : Nat} {q : Option Nat} {k k' : IntKind} {a c : Int} {Q : EqK}
theorem xMove : xF fMove [x] K = K x := nr rfl
theorem xPickT : xF fPick [.bool true, x, y] K = K x := nr rfl
theorem xPickF : xF fPick [.bool false, x, y] K = K y := nr rfl
theorem xNil {p : Addr} : xF fNil [.pointer (some p)] K = K (.pointer (some p)) := nr rfl
theorem xFld {p : Addr} : xF (fFld off) [.pointer (some p)] K = K (.pointer (some ⟨p.block, p.off + off, p.spot⟩)) := nr rfl
theorem xExt0 : xF (fExt 0) [.tuple #[x, y]] K = K x := nr rfl
theorem xExt1 : xF (fExt 1) [.tuple #[x, y]] K = K y := nr rfl
theorem xExt30 : xF (fExt 0) [.tuple #[x, y, z]] K = K x := nr rfl
theorem xExt31 : xF (fExt 1) [.tuple #[x, y, z]] K = K y := nr rfl
theorem xExt32 : xF (fExt 2) [.tuple #[x, y, z]] K = K z := nr rfl
theorem xAdd : xF (fBin .add Q) [.int k a, .int k c] K = K (.int k (k.wrap (a + c))) := by simp [xF, fBin, isSh, binI]
theorem xSub : xF (fBin .sub Q) [.int k a, .int k c] K = K (.int k (k.wrap (a - c))) := by simp [xF, fBin, isSh, binI]
theorem xMul : xF (fBin .mul Q) [.int k a, .int k c] K = K (.int k (k.wrap (a * c))) := by simp [xF, fBin, isSh, binI]
theorem xQuo (h : c ≠ 0) : xF (fBin .quo Q) [.int k a, .int k c] K = K (.int k (k.wrap (a.tdiv c))) := by simp [xF, fBin, isSh, binI, h]
theorem xRem (h : c ≠ 0) : xF (fBin .rem Q) [.int k a, .int k c] K = K (.int k (a.tmod c)) := by simp [xF, fBin, isSh, binI, h]
theorem xEql : xF (fBin .eql Q) [.int k a, .int k c] K = K (.bool (decide (a = c))) := by
 simp only [xF, fBin, isSh, binI]
 simp only [Bool.false_eq_true, if_false, if_true]
 congr 2
theorem xNeq : xF (fBin .neq Q) [.int k a, .int k c] K = K (.bool (decide (a ≠ c))) := by
 simp only [xF, fBin, isSh, binI]
 simp only [Bool.false_eq_true, if_false, if_true]
 congr 2
 by_cases h : a = c <;> simp [h]
theorem xLss : xF (fBin .lss Q) [.int k a, .int k c] K = K (.bool (decide (a < c))) := by simp [xF, fBin, isSh, binI]
theorem xLeq : xF (fBin .leq Q) [.int k a, .int k c] K = K (.bool (decide (a ≤ c))) := by simp [xF, fBin, isSh, binI]
theorem xGtr : xF (fBin .gtr Q) [.int k a, .int k c] K = K (.bool (decide (c < a))) := by simp [xF, fBin, isSh, binI]
theorem xGeq : xF (fBin .geq Q) [.int k a, .int k c] K = K (.bool (decide (c ≤ a))) := by simp [xF, fBin, isSh, binI]
theorem xEqPN {p : Addr} : xF (fBin .eql .ptr) [.pointer (some p), .pointer none] K = K (.bool false) := nr rfl
theorem xEqNN : xF (fBin .eql .ptr) [.pointer none, .pointer none] K = K (.bool true) := nr rfl
theorem xNePN {p : Addr} : xF (fBin .neq .ptr) [.pointer (some p), .pointer none] K = K (.bool true) := nr rfl
theorem xNeNN : xF (fBin .neq .ptr) [.pointer none, .pointer none] K = K (.bool false) := nr rfl
theorem xEqBB {u v : Bool} : xF (fBin .eql .bool) [.bool u, .bool v] K = K (.bool (u == v)) := nr rfl
theorem xNeBB {u v : Bool} : xF (fBin .neq .bool) [.bool u, .bool v] K = K (.bool (!(u == v))) := nr rfl
theorem xNot {u : Bool} : xF (fUn .not) [.bool u] K = K (.bool (!u)) := by simp [xF, fUn]
theorem xConv : xF (fConv k) [.int k' a] K = K (.int k (k.wrap a)) := nr rfl
theorem xLen {p : Option Addr} {n m : Nat} : xF fLen [.slice p n m] K = K (.int .i64 n) := nr rfl
theorem xMin : xF fMin [.int k a, .int k c] K = K (.int k (min a c)) := by
 show K (.int k (if c < a then c else a)) = _
 congr 2; split <;> omega
theorem xMax : xF fMax [.int k a, .int k c] K = K (.int k (max a c)) := by
 show K (.int k (if c > a then c else a)) = _
 congr 2; split <;> omega
theorem xIfc {t : TypeId} : xF (fIface t) [x] K = K (.iface t x) := nr rfl
theorem xIxS {p : Addr} {n m es : Nat} (h0 : 0 ≤ a) (h1 : a < n) : xF (fIxS es) [.slice (some p) n m, .int k a] K = K (.pointer (some ⟨p.block, p.off + a.toNat * es, p.spot⟩)) := by
 simp only [xF, fIxS, if_pos (And.intro h0 h1)]; rfl
theorem xIxA {p : Addr} {n es : Nat} (h0 : 0 ≤ a) (h1 : a < n) : xF (fIxA n es) [.pointer (some p), .int k a] K = K (.pointer (some ⟨p.block, p.off + a.toNat * es, p.spot⟩)) := by
 simp only [xF, fIxA, if_pos (And.intro h0 h1)]; rfl
theorem xFldV {cs : Array Value} {sz : Nat} {ag : Bool} : xF (fFldV off sz ag) [.agg cs] K = xO (sub cs.toList off sz ag) K := nr rfl
end
theorem xIfT {A B : Prop} : xIf (.bool true) A B = A := nr rfl
theorem xIfF {A B : Prop} : xIf (.bool false) A B = B := nr rfl
theorem xIfD {A B : Prop} {p : Prop} [Decidable p] : xIf (.bool (decide p)) A B = if p then A else B := by
 by_cases h : p <;> simp [xIf, h]
theorem xIfB {A B : Prop} {u : Bool} : xIf (.bool u) A B = if u = true then A else B := by cases u <;> rfl
theorem xJoinE {F : List Value → List (List Value) → Mem → Prop} {G : (List Value → List (List Value) → Mem → Prop) → Prop} : xJoin F G = G F := nr rfl
theorem xOs {v : Value} {K : Value → Prop} : xO (some v) K = K v := nr rfl
theorem xCs {c : List Value} {K : List Value → Prop} : xC (some c) K = K c := nr rfl
theorem sub_one {cs : List Value} {o : Nat} {v : Value} (h : cs[o]? = some v) : sub cs o 1 false = some v := by
 have : o < cs.length := (List.getElem?_eq_some_iff.1 h).1
 simp [sub, h, show o + 1 ≤ cs.length by omega]
theorem lay_one {cs : List Value} {o : Nat} {v : Value} : lay cs o [v] = cs.take o ++ v :: cs.drop (o + 1) := by simp [lay]
theorem lay_set {cs : List Value} {o : Nat} {v : Value} (h : o < cs.length) : lay cs o [v] = cs.set o v := by
 rw [lay_one, List.set_eq_take_append_cons_drop, if_pos h]
theorem hLoad_eq {sz b o : Nat} {ag : Bool} {K : Value → Mem → Prop} {σ : Mem} {cs : List Value} {rw : Bool} (h : σ.get b = some ⟨cs, rw⟩) :
  hLoad sz ag [.pointer (some ⟨b, o, none⟩)] K σ = xO (sub cs o sz ag) (fun v => K v σ) := by
 simp only [hLoad, rd, h]
 cases sub cs o sz ag <;> rfl
theorem hStore_eq {sz b o : Nat} {K : Value → Mem → Prop} {σ : Mem} {cs c : List Value} {x : Value} (h : σ.get b = some ⟨cs, true⟩) (hc : cellsOf x sz = some c)
  (hl : o + sz ≤ cs.length) (ho : c.all oneB = true) : hStore sz [.pointer (some ⟨b, o, none⟩), x] K σ = K undef (σ.set b ⟨lay cs o c, true⟩) := by
 simp only [hStore, wr, h, hc]
 rw [if_pos ⟨trivial, hl, ho⟩]
def upd (f : Int → Int) (a v : Int) : Int → Int := fun i => if i = a then v else f i
theorem upd_same (f : Int → Int) (a v : Int) : upd f a v a = v := by simp [upd]
theorem upd_ne (f : Int → Int) {a i : Int} (v : Int) (h : i ≠ a) : upd f a v i = f i := by simp [upd, h]
def cells (k : IntKind) (n : Nat) (f : Int → Int) : List Value := (List.range n).map fun i : Nat => Value.int k (f (i : Int))
@[simp] theorem cells_len (k : IntKind) (n : Nat) (f : Int → Int) : (cells k n f).length = n := by simp [cells]
theorem cells_get (k : IntKind) {n : Nat} (f : Int → Int) {a : Int} (h0 : 0 ≤ a) (h1 : a < n) : (cells k n f)[a.toNat]? = some (.int k (f a)) := by
 have : a.toNat < n := by omega
 simp only [cells, List.getElem?_map, List.getElem?_range this, Option.map_some]
 rw [show ((a.toNat : Nat) : Int) = a by omega]
theorem cells_set (k : IntKind) {n : Nat} (f : Int → Int) {a : Int} (v : Int) (h0 : 0 ≤ a) (h1 : a < n) : (cells k n f).set a.toNat (.int k v) = cells k n (upd f a v) := by
 apply List.ext_getElem?
 intro i
 rw [List.getElem?_set]
 by_cases hi : i < n
 ·simp only [cells, List.getElem?_map, List.getElem?_range hi, Option.map_some, List.length_map, List.length_range]
  by_cases e : a.toNat = i
  ·subst e
   rw [if_pos rfl, if_pos hi]
   simp [upd]
   intro hc; omega
  ·rw [if_neg e]
   have : (i : Int) ≠ a := by omega
   simp [upd, this]
 ·have h2 : ¬ a.toNat = i := by omega
  rw [if_neg h2]
  simp [cells, hi]
theorem cells_sub (k : IntKind) {n : Nat} (f : Int → Int) {a : Int} (h0 : 0 ≤ a) (h1 : a < n) : sub (cells k n f) (0 + a.toNat * 1) 1 false = some (.int k (f a)) := by
 rw [show 0 + a.toNat * 1 = a.toNat by omega]
 exact sub_one (cells_get k f h0 h1)
theorem cells_lay (k : IntKind) {n : Nat} (f : Int → Int) {a : Int} (v : Int) (h0 : 0 ≤ a) (h1 : a < n) : lay (cells k n f) (0 + a.toNat * 1) [.int k v] = cells k n (upd f a v) := by
 rw [show 0 + a.toNat * 1 = a.toNat by omega, lay_set (by simp; omega), cells_set k f v h0 h1]
theorem cells_repl (k : IntKind) (n : Nat) : (List.replicate n [Value.int k 0]).flatten = cells k n fun _ => 0 := by
 rw [List.flatten_replicate_singleton]
 apply List.ext_getElem?
 intro i
 by_cases hi : i < n
 ·simp [cells, hi, List.getElem?_replicate, List.getElem?_range hi]
 ·simp [cells, hi, List.getElem?_replicate]
theorem locP_e (k : Nat) : locP k = .pointer (some ⟨k, 0, some 0⟩) := nr rfl
theorem gBox_a {cs : List Value} {sz : Nat} {l : List Value} (h : cs.length = sz) : gBox sz [.agg cs.toArray] l = some cs := by
 subst h
 show cellsOf (.agg cs.toArray) _ = _
 simp [cellsOf]
theorem gBox_i {k : IntKind} {n : Int} {l : List Value} : gBox 1 [.int k n] l = some [.int k n] := nr rfl
theorem gBox_b {b : Bool} {l : List Value} : gBox 1 [.bool b] l = some [.bool b] := nr rfl
theorem gBox_p {p : Option Addr} {l : List Value} : gBox 1 [.pointer p] l = some [.pointer p] := nr rfl
theorem gLoad_s {sz k o : Nat} {ag : Bool} {q : Option Nat} {cs : List Value} : gLoad sz ag [.pointer (some ⟨k, o, q⟩)] cs = sub cs o sz ag := nr rfl
theorem gAlloc_s {z l : List Value} : gAlloc z [] l = some z := nr rfl
theorem gStore_a {sz k o : Nat} {q : Option Nat} {c cs : List Value} (h : c.length = sz) (hl : o + sz ≤ cs.length) (ho : c.all oneB = true) :
  gStore sz [.pointer (some ⟨k, o, q⟩), .agg c.toArray] cs = some (lay cs o c) := by
 subst h
 have : cellsOf (.agg c.toArray) c.length = some c := by simp [cellsOf]
 simp only [gStore, this]
 rw [if_pos ⟨hl, ho⟩]
theorem gStore_1 {k o : Nat} {q : Option Nat} {x : Value} {cs : List Value} (h : cellsOf x 1 = some [x]) (hl : o + 1 ≤ cs.length) (ho : oneB x = true) :
  gStore 1 [.pointer (some ⟨k, o, q⟩), x] cs = some (lay cs o [x]) := by
 simp only [gStore, h]
 rw [if_pos ⟨hl, by simp [ho]⟩]
theorem gStore_i {k o : Nat} {q : Option Nat} {kd : IntKind} {n : Int} {cs : List Value} (hl : o + 1 ≤ cs.length) :
  gStore 1 [.pointer (some ⟨k, o, q⟩), .int kd n] cs = some (lay cs o [.int kd n]) := gStore_1 rfl hl rfl
theorem gStore_b {k o : Nat} {q : Option Nat} {b : Bool} {cs : List Value} (hl : o + 1 ≤ cs.length) :
  gStore 1 [.pointer (some ⟨k, o, q⟩), .bool b] cs = some (lay cs o [.bool b]) := gStore_1 rfl hl rfl
theorem gStore_p {k o : Nat} {q : Option Nat} {p : Option Addr} {cs : List Value} (hl : o + 1 ≤ cs.length) :
  gStore 1 [.pointer (some ⟨k, o, q⟩), .pointer p] cs = some (lay cs o [.pointer p]) := gStore_1 rfl hl rfl
theorem sub_z {x : Value} {cs : List Value} : sub (x :: cs) 0 1 false = some x := by simp [sub]
theorem sub_s {x : Value} {cs : List Value} {n : Nat} : sub (x :: cs) (n + 1) 1 false = sub cs n 1 false := by
 simp only [sub, List.length_cons]
 by_cases h : n + 1 ≤ cs.length
 ·rw [if_pos h, if_pos (by omega)]; simp
 ·rw [if_neg h, if_neg (by omega)]
theorem sub_l {cs : List Value} {o sz : Nat} : sub cs o sz true = if o + sz ≤ cs.length then some (.agg ((cs.drop o).take sz).toArray) else none := by simp [sub]
theorem oneB_i {k : IntKind} {n : Int} : oneB (.int k n) = true := nr rfl
theorem oneB_b {b : Bool} : oneB (.bool b) = true := nr rfl
theorem oneB_p {p : Option Addr} : oneB (.pointer p) = true := nr rfl
theorem oneB_sl {p : Option Addr} {n c : Nat} : oneB (.slice p n c) = true := nr rfl
theorem lay_z {cs vs : List Value} : lay cs 0 vs = vs ++ cs.drop vs.length := by simp [lay]
theorem lay_s {x : Value} {cs vs : List Value} {n : Nat} : lay (x :: cs) (n + 1) vs = x :: lay cs n vs := by
 simp only [lay, List.take_succ_cons, List.cons_append]
 rw [show n + 1 + vs.length = (n + vs.length) + 1 by omega, List.drop_succ_cons]
def SlW (w : World) (ks : List (Option IntKind)) (v : Value) : Prop := v = .slice none 0 0 ∨ ∃ (a : Addr) (len cap : Nat) (cells : List Value), v = .slice (some a) len cap ∧ len ≤ cap ∧ cap ≤ maxLen ∧
 FlatL (List.replicate len ks).flatten cells ∧ (cap = 0 ∨ InW w a (cap * ks.length) (len * ks.length) cells)
theorem Opn.sl {w : World} {ρ : Ren} {σ : Mem} {avs avs' : List Value} {v : Value} {ks : List (Option IntKind)} (h : Opn w ρ σ avs avs') (hv : SlW w ks v) :
  ∃ ρ' σ' s n cs, Opn w ρ' σ' (s :: avs) (v :: avs') ∧ Sl σ' ks.length n cs s ∧ n ≤ maxLen ∧ FlatL (List.replicate n ks).flatten cs ∧ ∀ i b, σ.get i = some b → σ'.get i = some b := by
 rcases hv with rfl | ⟨a, len, cap, cs, rfl, h1, h2, h3, h4⟩
 ·exact ⟨ρ, σ, _, 0, [], h.nilS, .nil, Nat.zero_le _, .nil, fun _ _ q => q⟩
 ·obtain ⟨ρ', σ', s, o, sl, ext⟩ := h.slice (es := ks.length) h1 h3 (by simp) h4
  exact ⟨ρ', σ', s, len, cs, o, sl, Nat.le_trans h1 h2, h3, ext⟩
theorem FlatL.ints {k : IntKind} : ∀ {n : Nat} {cs : List Value}, FlatL (List.replicate n [some k]).flatten cs → ∃ f : Int → Int, cs = cells k n f ∧ ∀ i, (Lit.int k (f i)).wf = true
 | 0, cs, h => by
  cases h
  refine ⟨fun _ => 0, rfl, fun i => ?_⟩
  show (Lit.int k 0).wf = true
  cases k <;> decide
 | n + 1, cs, h => by
  have e : (List.replicate (n + 1) [some k]).flatten = some k :: (List.replicate n [some k]).flatten := by simp [List.replicate_succ]
  rw [e] at h
  cases h with
  | cons h1 h2 =>
   obtain ⟨m, rfl, hm⟩ := h1
   obtain ⟨f, rfl, hf⟩ := FlatL.ints h2
   refine ⟨fun i => if i = 0 then m else f (i - 1), ?_, fun i => ?_⟩
   ·simp only [cells, List.range_succ_eq_map, List.map_cons, List.map_map]
    congr 1
    apply List.map_congr_left
    intro i _
    simp only [Function.comp]
    rw [if_neg (by omega)]
    congr 2; omega
   ·dsimp only; split
    ·exact hm
    ·exact hf _
theorem ruS : type_of% ((And.intro (And.intro (And.intro (And.intro (And.intro @xMove (And.intro @xPickT @xPickF)) (And.intro @xNil (And.intro @xFld @xExt0))) (And.intro (And.intro @xExt1 (And.intro @xExt30 @xExt31)) (And.intro (And.intro @xExt32 @xAdd) (And.intro @xSub @xMul)))) (And.intro (And.intro (And.intro @xEql (And.intro @xNeq @xLss)) (And.intro @xLeq (And.intro @xGtr @xGeq))) (And.intro (And.intro @xEqPN (And.intro @xEqNN @xNePN)) (And.intro (And.intro @xNeNN @xEqBB) (And.intro @xNeBB @xNot))))) (And.intro (And.intro (And.intro (And.intro @xConv (And.intro @xLen @xMin)) (And.intro @xMax (And.intro @xIfc @xIfT))) (And.intro (And.intro @xIfF (And.intro @xIfD @xJoinE)) (And.intro (And.intro @xOs @xCs) (And.intro @xFldV @List.getD_cons_zero.{0})))) (And.intro (And.intro (And.intro @List.getD_cons_succ.{0} (And.intro @Nat.zero_add @Mem.get_set_same)) (And.intro (And.intro @Mem.set_set @if_true.{1}) (And.intro @if_false.{1} @Bool.not_true))) (And.intro (And.intro @Bool.not_false (And.intro @decide_true @decide_false)) (And.intro (And.intro @decide_eq_true_eq @decide_not) (And.intro @Bool.not_eq_true @Bool.false_eq_true))))))) := (And.intro (And.intro (And.intro (And.intro (And.intro @xMove (And.intro @xPickT @xPickF)) (And.intro @xNil (And.intro @xFld @xExt0))) (And.intro (And.intro @xExt1 (And.intro @xExt30 @xExt31)) (And.intro (And.intro @xExt32 @xAdd) (And.intro @xSub @xMul)))) (And.intro (And.intro (And.intro @xEql (And.intro @xNeq @xLss)) (And.intro @xLeq (And.intro @xGtr @xGeq))) (And.intro (And.intro @xEqPN (And.intro @xEqNN @xNePN)) (And.intro (And.intro @xNeNN @xEqBB) (And.intro @xNeBB @xNot))))) (And.intro (And.intro (And.intro (And.intro @xConv (And.intro @xLen @xMin)) (And.intro @xMax (And.intro @xIfc @xIfT))) (And.intro (And.intro @xIfF (And.intro @xIfD @xJoinE)) (And.intro (And.intro @xOs @xCs) (And.intro @xFldV @List.getD_cons_zero.{0})))) (And.intro (And.intro (And.intro @List.getD_cons_succ.{0} (And.intro @Nat.zero_add @Mem.get_set_same)) (And.intro (And.intro @Mem.set_set @if_true.{1}) (And.intro @if_false.{1} @Bool.not_true))) (And.intro (And.intro @Bool.not_false (And.intro @decide_true @decide_false)) (And.intro (And.intro @decide_eq_true_eq @decide_not) (And.intro @Bool.not_eq_true @Bool.false_eq_true))))))
theorem ruL : type_of% ((And.intro (And.intro (And.intro (And.intro (And.intro @locP_e @gBox_a) (And.intro @gBox_i @gBox_b)) (And.intro (And.intro @gBox_p @gLoad_s) (And.intro @gAlloc_s @gStore_a))) (And.intro (And.intro (And.intro @gStore_i @gStore_b) (And.intro @gStore_p @sub_z)) (And.intro (And.intro @sub_s @lay_z) (And.intro @lay_s @List.length_cons.{0})))) (And.intro (And.intro (And.intro (And.intro @List.length_nil.{0} @Nat.le_refl) (And.intro @List.drop_zero.{0} @List.drop_succ_cons.{0})) (And.intro (And.intro @List.take_succ_cons.{0} @List.take_zero.{0}) (And.intro @List.drop_nil.{0} @List.cons_append.{0}))) (And.intro (And.intro (And.intro @List.nil_append.{0} @List.all_cons.{0}) (And.intro @List.all_nil.{0} @oneB_i)) (And.intro (And.intro @oneB_b @oneB_p) (And.intro @oneB_sl @Bool.and_true)))))) := (And.intro (And.intro (And.intro (And.intro (And.intro @locP_e @gBox_a) (And.intro @gBox_i @gBox_b)) (And.intro (And.intro @gBox_p @gLoad_s) (And.intro @gAlloc_s @gStore_a))) (And.intro (And.intro (And.intro @gStore_i @gStore_b) (And.intro @gStore_p @sub_z)) (And.intro (And.intro @sub_s @lay_z) (And.intro @lay_s @List.length_cons.{0})))) (And.intro (And.intro (And.intro (And.intro @List.length_nil.{0} @Nat.le_refl) (And.intro @List.drop_zero.{0} @List.drop_succ_cons.{0})) (And.intro (And.intro @List.take_succ_cons.{0} @List.take_zero.{0}) (And.intro @List.drop_nil.{0} @List.cons_append.{0}))) (And.intro (And.intro (And.intro @List.nil_append.{0} @List.all_cons.{0}) (And.intro @List.all_nil.{0} @oneB_i)) (And.intro (And.intro @oneB_b @oneB_p) (And.intro @oneB_sl @Bool.and_true)))))
theorem ruX : type_of% (@sub_l) := @sub_l
end Go.Fl
namespace Go.Fl
open Go
set_option linter.unusedVariables false
set_option linter.unusedSimpArgs false
structure Ar where
 n : Nat
 w : Int → Int
 t : Int → Int
 s : Int
 who : Int
 la : Int
 lw : Int
 lc : Bool
structure Nm where
 m : Nat
 w : Nat
 t : Nat
def Ar.mc (N : Nm) (A : Ar) : List Value := [.slice (some ⟨N.w, 0, none⟩) A.n 1, .slice (some ⟨N.t, 0, none⟩) A.n 1, .int .i64 A.s, .int .i64 A.who, .int .i64 A.la, .int .i64 A.lw, .bool A.lc]
def Ar.wb (A : Ar) : Blk := ⟨cells .u64 A.n A.w, true⟩
def Ar.tb (A : Ar) : Blk := ⟨cells .i64 A.n A.t, true⟩
structure Nm.ok (N : Nm) : Prop where
 mw : N.m ≠ N.w
 mt : N.m ≠ N.t
 wt : N.w ≠ N.t
def putA (N : Nm) (A : Ar) (σ : Mem) : Mem := ((σ.set N.t A.tb).set N.w A.wb).set N.m ⟨A.mc N, true⟩
variable {N : Nm} {A B : Ar} {σ : Mem} {K : Value → Mem → Prop}
theorem putA_m : (putA N A σ).get N.m = some ⟨A.mc N, true⟩ := by simp [putA]
theorem putA_w (h : N.ok) : (putA N A σ).get N.w = some A.wb := by simp [putA, Mem.get_set, h.mw.symm]
theorem putA_t (h : N.ok) : (putA N A σ).get N.t = some A.tb := by simp [putA, Mem.get_set, h.mt.symm, h.wt.symm]
theorem putA_ne {i : Nat} (h1 : i ≠ N.m) (h2 : i ≠ N.w) (h3 : i ≠ N.t) : (putA N A σ).get i = σ.get i := by simp [putA, Mem.get_set, h1, h2, h3]
theorem putA_set {p : Nat} {c : Blk} (h1 : p ≠ N.m) (h2 : p ≠ N.w) (h3 : p ≠ N.t) : (putA N A σ).set p c = putA N A (σ.set p c) := by
 simp only [putA]
 rw [Mem.set_comm _ _ _ h1.symm, Mem.set_comm _ _ _ h2.symm, Mem.set_comm _ _ _ h3.symm]
def Ar.by (A : Ar) (who : Int) : Ar := { A with who := who }
def Ar.step (A : Ar) (a : Int) : Ar := { A with s := IntKind.i64.wrap (A.s + 1), la := a, lw := A.who, lc := false }
def Ar.lay (A : Ar) (a v : Int) : Ar := { A with lc := decide (A.w a ≠ v), t := if A.w a ≠ v then upd A.t a A.s else A.t, w := upd A.w a v }
def Ar.tick (A : Ar) : Ar := { A with s := IntKind.i64.wrap (A.s + 1) }
def Ar.lst (A : Ar) (a : Int) : Ar := { A with la := a, lw := A.who, lc := false }
def Ar.chg (A : Ar) (c : Bool) : Ar := { A with lc := c }
def Ar.setW (A : Ar) (a v : Int) : Ar := { A with w := upd A.w a v }
def Ar.setT (A : Ar) (a v : Int) : Ar := { A with t := upd A.t a v }
theorem putA_setM (h : A.n = B.n) (hw : A.w = B.w) (ht : A.t = B.t) : (putA N A σ).set N.m ⟨B.mc N, true⟩ = putA N B σ := by
 simp only [putA, Mem.set_set, Ar.wb, Ar.tb, h, hw, ht]
theorem ldM0 : hLoad 1 false [.pointer (some ⟨N.m, 0, none⟩)] K (putA N A σ) = K (.slice (some ⟨N.w, 0, none⟩) A.n 1) (putA N A σ) := (hLoad_eq putA_m).trans rfl
theorem ldM1 : hLoad 1 false [.pointer (some ⟨N.m, 1, none⟩)] K (putA N A σ) = K (.slice (some ⟨N.t, 0, none⟩) A.n 1) (putA N A σ) := (hLoad_eq putA_m).trans rfl
theorem ldM2 : hLoad 1 false [.pointer (some ⟨N.m, 2, none⟩)] K (putA N A σ) = K (.int .i64 A.s) (putA N A σ) := (hLoad_eq putA_m).trans rfl
theorem ldM3 : hLoad 1 false [.pointer (some ⟨N.m, 3, none⟩)] K (putA N A σ) = K (.int .i64 A.who) (putA N A σ) := (hLoad_eq putA_m).trans rfl
theorem ldM6 : hLoad 1 false [.pointer (some ⟨N.m, 6, none⟩)] K (putA N A σ) = K (.bool A.lc) (putA N A σ) := (hLoad_eq putA_m).trans rfl
theorem stM2 : hStore 1 [.pointer (some ⟨N.m, 2, none⟩), .int .i64 (IntKind.i64.wrap (A.s + 1))] K (putA N A σ) = K undef (putA N A.tick σ) := by
 rw [hStore_eq putA_m rfl (by simp [Ar.mc]) rfl]
 exact congrArg _ (putA_setM (B := A.tick) rfl rfl rfl)
theorem stM3 {who : Int} : hStore 1 [.pointer (some ⟨N.m, 3, none⟩), .int .i64 who] K (putA N A σ) = K undef (putA N (A.by who) σ) := by
 rw [hStore_eq putA_m rfl (by simp [Ar.mc]) rfl]
 exact congrArg _ (putA_setM (B := A.by who) rfl rfl rfl)
theorem stM4 {a : Int} : hStore 3 [.pointer (some ⟨N.m, 4, none⟩), .agg #[.int .i64 a, .int .i64 A.who, .bool false]] K (putA N A σ) = K undef (putA N (A.lst a) σ) := by
 rw [hStore_eq putA_m rfl (by simp [Ar.mc]) rfl]
 exact congrArg _ (putA_setM (B := A.lst a) rfl rfl rfl)
theorem stM6 {c : Bool} : hStore 1 [.pointer (some ⟨N.m, 6, none⟩), .bool c] K (putA N A σ) = K undef (putA N (A.chg c) σ) := by
 rw [hStore_eq putA_m rfl (by simp [Ar.mc]) rfl]
 exact congrArg _ (putA_setM (B := A.chg c) rfl rfl rfl)
theorem ldW (h : N.ok) {a : Int} (h0 : 0 ≤ a) (h1 : a < A.n) : hLoad 1 false [.pointer (some ⟨N.w, a.toNat * 1, none⟩)] K (putA N A σ) = K (.int .u64 (A.w a)) (putA N A σ) := by
 rw [hLoad_eq (putA_w h)]
 have := cells_sub .u64 A.w h0 h1
 rw [Nat.zero_add] at this
 rw [this, xOs]
theorem stW (h : N.ok) {a v : Int} (h0 : 0 ≤ a) (h1 : a < A.n) : hStore 1 [.pointer (some ⟨N.w, a.toNat * 1, none⟩), .int .u64 v] K (putA N A σ) = K undef (putA N (A.setW a v) σ) := by
 have := cells_lay .u64 A.w v h0 h1
 rw [Nat.zero_add] at this
 rw [hStore_eq (putA_w h) rfl (by simp; omega) rfl, this]
 refine congrArg _ ?_
 simp only [putA]
 rw [Mem.set_comm _ _ _ h.mw, Mem.set_set]; rfl
theorem stT (h : N.ok) {a v : Int} (h0 : 0 ≤ a) (h1 : a < A.n) : hStore 1 [.pointer (some ⟨N.t, a.toNat * 1, none⟩), .int .i64 v] K (putA N A σ) = K undef (putA N (A.setT a v) σ) := by
 have := cells_lay .i64 A.t v h0 h1
 rw [Nat.zero_add] at this
 rw [hStore_eq (putA_t h) rfl (by simp; omega) rfl, this]
 refine congrArg _ ?_
 simp only [putA]
 rw [Mem.set_comm _ _ _ h.mt, Mem.set_comm _ _ _ h.wt, Mem.set_set]; rfl
theorem xBuildLast {a b : Int} {K : Value → Prop} : xF (fBuild [(0, 1), (1, 1), (2, 1)] [.int .i64 0, .int .i64 0, .bool false] [0, 1]) [.int .i64 a, .int .i64 b] K = K (.agg #[.int .i64 a, .int .i64 b, .bool false]) := rfl
def Nm.p (N : Nm) : Value := .pointer (some ⟨N.m, 0, none⟩)
theorem c_By {who : Int} : s_bl [N.p, .int .i64 who] K (putA N A σ) = K (.tuple #[]) (putA N (A.by who) σ) := by
 simp only [s_bl, w_bl, Nm.p, stM3, ruS, Nat.reduceAdd, reduceIte, Int.reduceLT, Int.reduceLE, Int.reduceEq, Int.reduceNeg, Int.reduceAdd, Int.reduceSub]
theorem c_step {a : Int} (h0 : 0 ≤ a) (h1 : a < A.n) : s_bs [N.p, .int .i64 a] K (putA N A σ) = K (.bool true) (putA N (A.step a) σ) := by
 simp only [s_bs, w_bs, w_bs_j1, w_bs_j1b, Nm.p, ldM0, ldM2, ldM3, stM2, stM4, xBuildLast, ruS, Nat.reduceAdd, reduceIte, Int.reduceLT, Int.reduceLE, Int.reduceEq, Int.reduceNeg, Int.reduceAdd, Int.reduceSub]
 rw [if_neg (by omega), if_neg (by omega)]
 rfl
theorem c_set (h : N.ok) {a v : Int} (h0 : 0 ≤ a) (h1 : a < A.n) : s_br [N.p, .int .i64 a, .int .u64 v] K (putA N A σ) = K (.tuple #[]) (putA N (A.lay a v) σ) := by
 have h2 : ∀ c, a < (A.chg c).n := fun _ => h1
 simp only [s_br, w_br, w_br_j1, w_br_j1b, Nm.p, ldM0, ldM1, ldM2, ldM6, stM6, xIxS h0 h1, xIxS h0 (h2 _), ldW h h0 h1, ruS, Nat.reduceAdd, reduceIte, Int.reduceLT, Int.reduceLE, Int.reduceEq, Int.reduceNeg, Int.reduceAdd, Int.reduceSub]
 by_cases hc : A.w a = v
 ·simp only [hc, Ar.chg, ne_eq, not_true_eq_false, decide_false, Bool.false_eq_true, if_false, xIxS h0 h1, ruS, Nat.reduceAdd, reduceIte, Int.reduceLT, Int.reduceLE, Int.reduceEq, Int.reduceNeg, Int.reduceAdd, Int.reduceSub]
  have h3 : a < (A.chg false).n := h1
  rw [show ({ n := A.n, w := A.w, t := A.t, s := A.s, who := A.who, la := A.la, lw := A.lw, lc := false } : Ar) = A.chg false from rfl]
  simp only [xIxS h0 h3, stW h h0 h3, Nat.zero_add]
  refine congrArg _ (congrArg (putA N · σ) ?_)
  simp [Ar.setW, Ar.chg, Ar.lay, hc]
 ·simp only [hc, ne_eq, not_false_eq_true, decide_true, if_true, Ar.chg, ruS, Nat.reduceAdd, reduceIte, Int.reduceLT, Int.reduceLE, Int.reduceEq, Int.reduceNeg, Int.reduceAdd, Int.reduceSub]
  have h3 : a < (A.chg true).n := h1
  have h4 : a < ((A.chg true).setT a A.s).n := h1
  rw [show ({ n := A.n, w := A.w, t := A.t, s := A.s, who := A.who, la := A.la, lw := A.lw, lc := true } : Ar) = A.chg true from rfl]
  simp only [xIxS h0 h3, stT h h0 h3, Nat.zero_add]
  simp only [ldM0, ruS, Nat.reduceAdd, reduceIte, Int.reduceLT, Int.reduceLE, Int.reduceEq, Int.reduceNeg, Int.reduceAdd, Int.reduceSub]
  simp only [xIxS h0 h4, stW h h0 h4, Nat.zero_add]
  refine congrArg _ (congrArg (putA N · σ) ?_)
  simp [Ar.setW, Ar.setT, Ar.chg, Ar.lay, hc]
def Ar.load (A : Ar) (a : Int) : Ar := A.step a
def Ar.store (A : Ar) (a v : Int) : Ar := (A.step a).lay a v
def Ar.cas (A : Ar) (a o v : Int) : Ar := if A.w a = o then (A.step a).lay a v else A.step a
def Ar.add (A : Ar) (a d : Int) : Ar := (A.step a).lay a (IntKind.u64.wrap (A.w a + d))
theorem step_lt {a b : Int} (h : a < A.n) : a < (A.step b).n := h
theorem c_mLoad (h : N.ok) {a : Int} (h0 : 0 ≤ a) (h1 : a < A.n) : s_bn [N.p, .int .i64 a] K (putA N A σ) = K (.tuple #[.int .u64 (A.w a), .int .i64 0]) (putA N (A.load a) σ) := by
 simp only [s_bn, w_bn, ruS, Nat.reduceAdd, reduceIte, Int.reduceLT, Int.reduceLE, Int.reduceEq, Int.reduceNeg, Int.reduceAdd, Int.reduceSub, c_step h0 h1]
 simp only [Nm.p, ldM0, xIxS h0 (step_lt h1), ldW h h0 (step_lt h1), ruS, Nat.reduceAdd, reduceIte, Int.reduceLT, Int.reduceLE, Int.reduceEq, Int.reduceNeg, Int.reduceAdd, Int.reduceSub]
 rfl
theorem c_mStore (h : N.ok) {a v : Int} (h0 : 0 ≤ a) (h1 : a < A.n) : s_bq [N.p, .int .i64 a, .int .u64 v] K (putA N A σ) = K (.int .i64 0) (putA N (A.store a v) σ) := by
 simp only [s_bq, w_bq, ruS, Nat.reduceAdd, reduceIte, Int.reduceLT, Int.reduceLE, Int.reduceEq, Int.reduceNeg, Int.reduceAdd, Int.reduceSub, c_step h0 h1, c_set h h0 (step_lt h1)]
 rfl
theorem c_mCas (h : N.ok) {a o v : Int} (h0 : 0 ≤ a) (h1 : a < A.n) : s_bm [N.p, .int .i64 a, .int .u64 o, .int .u64 v] K (putA N A σ) = K (.tuple #[.bool (decide (A.w a = o)), .int .i64 0]) (putA N (A.cas a o v) σ) := by
 simp only [s_bm, w_bm, ruS, Nat.reduceAdd, reduceIte, Int.reduceLT, Int.reduceLE, Int.reduceEq, Int.reduceNeg, Int.reduceAdd, Int.reduceSub, c_step h0 h1]
 have hw : (A.step a).w a = A.w a := rfl
 simp only [Nm.p, ldM0, xIxS h0 (step_lt h1), ldW h h0 (step_lt h1), ruS, Nat.reduceAdd, reduceIte, Int.reduceLT, Int.reduceLE, Int.reduceEq, Int.reduceNeg, Int.reduceAdd, Int.reduceSub, hw]
 by_cases hc : A.w a = o
 ·have := c_set (K := fun v σ => K (.tuple #[.bool true, .int .i64 0]) σ) (σ := σ) (v := v) h h0 (step_lt (b := a) h1)
  simp only [Nm.p] at this
  simp only [hc, decide_true, if_false, if_true, not_true_eq_false, ne_eq, this, Ar.cas, ruS, Nat.reduceAdd, reduceIte, Int.reduceLT, Int.reduceLE, Int.reduceEq, Int.reduceNeg, Int.reduceAdd, Int.reduceSub]
 ·simp only [hc, decide_false, if_true, not_false_eq_true, ne_eq, Ar.cas, if_false, ruS, Nat.reduceAdd, reduceIte, Int.reduceLT, Int.reduceLE, Int.reduceEq, Int.reduceNeg, Int.reduceAdd, Int.reduceSub]
theorem c_mAdd (h : N.ok) {a d : Int} (h0 : 0 ≤ a) (h1 : a < A.n) : s_bk [N.p, .int .i64 a, .int .u64 d] K (putA N A σ) = K (.tuple #[.int .u64 (A.w a), .int .i64 0]) (putA N (A.add a d) σ) := by
 simp only [s_bk, w_bk, ruS, Nat.reduceAdd, reduceIte, Int.reduceLT, Int.reduceLE, Int.reduceEq, Int.reduceNeg, Int.reduceAdd, Int.reduceSub, c_step h0 h1]
 have hw : (A.step a).w a = A.w a := rfl
 simp only [Nm.p, ldM0, xIxS h0 (step_lt h1), ldW h h0 (step_lt h1), ruS, Nat.reduceAdd, reduceIte, Int.reduceLT, Int.reduceLE, Int.reduceEq, Int.reduceNeg, Int.reduceAdd, Int.reduceSub, hw]
 have := c_set (K := fun q σ => K (.tuple #[.int .u64 (A.w a), .int .i64 0]) σ) (σ := σ) (v := IntKind.u64.wrap (A.w a + d)) h h0 (step_lt (b := a) h1)
 simp only [Nm.p] at this
 simp only [this, ruS, Nat.reduceAdd, reduceIte, Int.reduceLT, Int.reduceLE, Int.reduceEq, Int.reduceNeg, Int.reduceAdd, Int.reduceSub]
 rfl
theorem c_mPeek (h : N.ok) {a : Int} (h0 : 0 ≤ a) (h1 : a < A.n) : s_bo [N.p, .int .i64 a] K (putA N A σ) = K (.int .u64 (A.w a)) (putA N A σ) := by
 simp only [s_bo, w_bo, w_bo_j1, w_bo_j1b, Nm.p, ldM0, ruS, Nat.reduceAdd, reduceIte, Int.reduceLT, Int.reduceLE, Int.reduceEq, Int.reduceNeg, Int.reduceAdd, Int.reduceSub]
 rw [if_neg (by omega), if_neg (by omega), xIxS h0 h1]
 simp only [Nat.zero_add]
 rw [ldW h h0 h1]
theorem c_mSteps : s_bp [N.p] K (putA N A σ) = K (.int .i64 A.s) (putA N A σ) := by
 simp only [s_bp, w_bp, Nm.p, ldM2, ruS, Nat.reduceAdd, reduceIte, Int.reduceLT, Int.reduceLE, Int.reduceEq, Int.reduceNeg, Int.reduceAdd, Int.reduceSub]
structure Cf where
 T : Int
 S : Int
 C : Int
 W : Int
 G : Int
 P : Int
 R : Int
def Cf.l (c : Cf) : List Value := [.int .i64 c.T, .int .i64 c.S, .int .i64 c.C, .int .i64 c.W, .int .i64 c.G, .int .i64 c.P, .int .i64 c.R]
def Cf.v (c : Cf) : Value := .agg #[.int .i64 c.T, .int .i64 c.S, .int .i64 c.C, .int .i64 c.W, .int .i64 c.G, .int .i64 c.P, .int .i64 c.R]
def Nm.env (N : Nm) (c : Cf) (who : Int) : Value := .agg #[.int .i64 c.T, .int .i64 c.S, .int .i64 c.C, .int .i64 c.W, .int .i64 c.G, .int .i64 c.P, .int .i64 c.R, N.p, .int .i64 who]
variable {C : Cf} {who : Int}
theorem by_lt {a : Int} (h : a < A.n) : a < (A.by who).n := h
theorem c_Load (h : N.ok) {a : Int} (h0 : 0 ≤ a) (h1 : a < A.n) : s_ba [N.env C who, .int .i64 a] K (putA N A σ) = K (.int .u64 (A.w a)) (putA N ((A.by who).load a) σ) := by
 simp only [s_ba, w_ba, Nm.env, ruS, ruL, ruX, Nat.reduceAdd, reduceIte, Int.reduceLT, Int.reduceLE, Int.reduceEq, Int.reduceNeg, Int.reduceAdd, Int.reduceSub, Nat.reduceLeDiff, c_By, c_mLoad h h0 (by_lt h1)]
 rfl
theorem c_Store (h : N.ok) {a v : Int} (h0 : 0 ≤ a) (h1 : a < A.n) : s_bc [N.env C who, .int .i64 a, .int .u64 v] K (putA N A σ) = K (.tuple #[]) (putA N ((A.by who).store a v) σ) := by
 simp only [s_bc, w_bc, Nm.env, ruS, ruL, ruX, Nat.reduceAdd, reduceIte, Int.reduceLT, Int.reduceLE, Int.reduceEq, Int.reduceNeg, Int.reduceAdd, Int.reduceSub, Nat.reduceLeDiff, c_By, c_mStore h h0 (by_lt h1)]
theorem c_Cas (h : N.ok) {a o v : Int} (h0 : 0 ≤ a) (h1 : a < A.n) : s_a9 [N.env C who, .int .i64 a, .int .u64 o, .int .u64 v] K (putA N A σ) = K (.bool (decide (A.w a = o))) (putA N ((A.by who).cas a o v) σ) := by
 simp only [s_a9, w_a9, Nm.env, ruS, ruL, ruX, Nat.reduceAdd, reduceIte, Int.reduceLT, Int.reduceLE, Int.reduceEq, Int.reduceNeg, Int.reduceAdd, Int.reduceSub, Nat.reduceLeDiff, c_By, c_mCas h h0 (by_lt h1)]
 rfl
theorem c_Add (h : N.ok) {a d : Int} (h0 : 0 ≤ a) (h1 : a < A.n) : s_a8 [N.env C who, .int .i64 a, .int .i64 d] K (putA N A σ) = K (.tuple #[]) (putA N ((A.by who).add a (IntKind.u64.wrap d)) σ) := by
 simp only [s_a8, w_a8, Nm.env, ruS, ruL, ruX, Nat.reduceAdd, reduceIte, Int.reduceLT, Int.reduceLE, Int.reduceEq, Int.reduceNeg, Int.reduceAdd, Int.reduceSub, Nat.reduceLeDiff, c_By, c_mAdd h h0 (by_lt h1)]
theorem c_Now : s_bb [N.env C who] K (putA N A σ) = K (.int .i64 A.s) (putA N A σ) := by
 simp only [s_bb, w_bb, Nm.env, ruS, ruL, ruX, Nat.reduceAdd, reduceIte, Int.reduceLT, Int.reduceLE, Int.reduceEq, Int.reduceNeg, Int.reduceAdd, Int.reduceSub, Nat.reduceLeDiff, c_mSteps]
theorem xAnd63 {K : Value → Prop} {Q : EqK} {k : Nat} {w : Int} (h0 : 0 ≤ w) (h1 : w < 18446744073709551616) (hk : k ≤ 63) : xF (fBin .and Q) [.int .u64 w, .int .u64 (2 ^ k - 1)] K = K (.int .u64 (w % 2 ^ k)) := by
 obtain ⟨n, rfl⟩ := Int.eq_ofNat_of_zero_le h0
 have e : ((2 : Int) ^ k - 1) = ((2 ^ k - 1 : Nat) : Int) := by
  have : 0 < 2 ^ k := Nat.two_pow_pos k
  push_cast [Nat.one_le_two_pow]
  rfl
 have hb : 2 ^ k < 2 ^ 64 := Nat.pow_lt_pow_right (by decide) (by omega)
 have hn : n < 2 ^ 64 := by omega
 have q : (BitVec.ofInt 64 (n : Int) &&& BitVec.ofInt 64 ((2 ^ k - 1 : Nat) : Int)).toNat = n % 2 ^ k := by
  rw [BitVec.toNat_and, BitVec.toNat_ofInt, BitVec.toNat_ofInt]
  have h3 : ((n : Int) % ((2 ^ 64 : Nat) : Int)).toNat = n := by omega
  have h4 : (((2 ^ k - 1 : Nat) : Int) % ((2 ^ 64 : Nat) : Int)).toNat = 2 ^ k - 1 := by omega
  rw [h3, h4, Nat.and_two_pow_sub_one_eq_mod]
 show xF (fBin .and Q) _ _ = _
 simp only [xF, fBin, isSh, binI, Bool.false_eq_true, if_false, if_true]
 show K (.int .u64 (IntKind.u64.wrap ((BitVec.ofInt 64 (n : Int) &&& BitVec.ofInt 64 (2 ^ k - 1)).toNat : Int))) = _
 rw [e, q, IntWalk.u64_in _ (by have := Nat.mod_lt n (Nat.two_pow_pos k); omega)]
 push_cast
 rfl
theorem and2 {K : Value → Prop} {Q : EqK} {w : Int} (h0 : 0 ≤ w) (h1 : w < 18446744073709551616) : xF (fBin .and Q) [.int .u64 w, .int .u64 3] K = K (.int .u64 (w % 4)) := by
 simpa using xAnd63 (K := K) (Q := Q) (k := 2) h0 h1 (by decide)
theorem and3 {K : Value → Prop} {Q : EqK} {w : Int} (h0 : 0 ≤ w) (h1 : w < 18446744073709551616) : xF (fBin .and Q) [.int .u64 w, .int .u64 7] K = K (.int .u64 (w % 8)) := by
 simpa using xAnd63 (K := K) (Q := Q) (k := 3) h0 h1 (by decide)
theorem and6 {K : Value → Prop} {Q : EqK} {w : Int} (h0 : 0 ≤ w) (h1 : w < 18446744073709551616) : xF (fBin .and Q) [.int .u64 w, .int .u64 63] K = K (.int .u64 (w % 64)) := by
 simpa using xAnd63 (K := K) (Q := Q) (k := 6) h0 h1 (by decide)
theorem and16 {K : Value → Prop} {Q : EqK} {w : Int} (h0 : 0 ≤ w) (h1 : w < 18446744073709551616) : xF (fBin .and Q) [.int .u64 w, .int .u64 65535] K = K (.int .u64 (w % 65536)) := by
 simpa using xAnd63 (K := K) (Q := Q) (k := 16) h0 h1 (by decide)
theorem and17 {K : Value → Prop} {Q : EqK} {w : Int} (h0 : 0 ≤ w) (h1 : w < 18446744073709551616) : xF (fBin .and Q) [.int .u64 w, .int .u64 131071] K = K (.int .u64 (w % 131072)) := by
 simpa using xAnd63 (K := K) (Q := Q) (k := 17) h0 h1 (by decide)
theorem and20 {K : Value → Prop} {Q : EqK} {w : Int} (h0 : 0 ≤ w) (h1 : w < 18446744073709551616) : xF (fBin .and Q) [.int .u64 w, .int .u64 1048575] K = K (.int .u64 (w % 1048576)) := by
 simpa using xAnd63 (K := K) (Q := Q) (k := 20) h0 h1 (by decide)
theorem and22 {K : Value → Prop} {Q : EqK} {w : Int} (h0 : 0 ≤ w) (h1 : w < 18446744073709551616) : xF (fBin .and Q) [.int .u64 w, .int .u64 4194303] K = K (.int .u64 (w % 4194304)) := by
 simpa using xAnd63 (K := K) (Q := Q) (k := 22) h0 h1 (by decide)
theorem and36 {K : Value → Prop} {Q : EqK} {w : Int} (h0 : 0 ≤ w) (h1 : w < 18446744073709551616) : xF (fBin .and Q) [.int .u64 w, .int .u64 68719476735] K = K (.int .u64 (w % 68719476736)) := by
 simpa using xAnd63 (K := K) (Q := Q) (k := 36) h0 h1 (by decide)
theorem and1 {K : Value → Prop} {Q : EqK} {w : Int} (h0 : 0 ≤ w) (h1 : w < 18446744073709551616) : xF (fBin .and Q) [.int .u64 w, .int .u64 1] K = K (.int .u64 (w % 2)) := by
 simpa using xAnd63 (K := K) (Q := Q) (k := 1) h0 h1 (by decide)
theorem xShrG {K : Value → Prop} {Q : EqK} {k' : IntKind} {s : Nat} {w : Int} (h0 : 0 ≤ w) (hs : s ≤ 64) : xF (fBin .shr Q) [.int .u64 w, .int k' (s : Int)] K = K (.int .u64 (w / 2 ^ s)) := by
 have h : ¬ ((s : Int) < 0) := by omega
 have hm : min s IntKind.u64.bits = s := Nat.min_eq_left hs
 simp only [xF, fBin, isSh, shI, if_true, if_neg h, Int.toNat_natCast, hm]
 rw [Int.fdiv_eq_ediv_of_nonneg _ (by exact Int.le_of_lt (Int.pow_pos (by decide)))]
theorem xShlG {K : Value → Prop} {Q : EqK} {k' : IntKind} {s : Nat} {w : Int} (h0 : 0 ≤ w) (h1 : w * 2 ^ s < 18446744073709551616) (hs : s ≤ 64) : xF (fBin .shl Q) [.int .u64 w, .int k' (s : Int)] K = K (.int .u64 (w * 2 ^ s)) := by
 have h : ¬ ((s : Int) < 0) := by omega
 have hm : min s IntKind.u64.bits = s := Nat.min_eq_left hs
 simp only [xF, fBin, isSh, shI, if_true, if_neg h, Int.toNat_natCast, hm]
 rw [IntWalk.u64_in _ ⟨Int.mul_nonneg h0 (Int.le_of_lt (Int.pow_pos (by decide))), by omega⟩]
theorem xOrG {K : Value → Prop} {Q : EqK} {s : Nat} {a c : Int} (h0 : 0 ≤ a) (h1 : a < 2 ^ s) (h2 : 0 ≤ c) (h3 : a + c * 2 ^ s < 18446744073709551616) :
  xF (fBin .or Q) [.int .u64 a, .int .u64 (c * 2 ^ s)] K = K (.int .u64 (a + c * 2 ^ s)) := by
 obtain ⟨m, rfl⟩ := Int.eq_ofNat_of_zero_le h0
 obtain ⟨n, rfl⟩ := Int.eq_ofNat_of_zero_le h2
 have e : (n : Int) * 2 ^ s = ((n * 2 ^ s : Nat) : Int) := by push_cast; rfl
 rw [e] at h3 ⊢
 have hm : m < 2 ^ s := by exact_mod_cast h1
 have q : (BitVec.ofInt 64 (m : Int) ||| BitVec.ofInt 64 ((n * 2 ^ s : Nat) : Int)).toNat = m + n * 2 ^ s := by
  rw [BitVec.toNat_or, BitVec.toNat_ofInt, BitVec.toNat_ofInt]
  have h4 : ((m : Int) % ((2 ^ 64 : Nat) : Int)).toNat = m := by omega
  have h5 : (((n * 2 ^ s : Nat) : Int) % ((2 ^ 64 : Nat) : Int)).toNat = n * 2 ^ s := by omega
  rw [h4, h5, Nat.mul_comm n, Nat.or_comm, ← Nat.two_pow_add_eq_or_of_lt hm, Nat.add_comm]
 simp only [xF, fBin, isSh, binI, Bool.false_eq_true, if_false, if_true]
 show K (.int .u64 (IntKind.u64.wrap ((BitVec.ofInt 64 (m : Int) ||| BitVec.ofInt 64 ((n * 2 ^ s : Nat) : Int)).toNat : Int))) = _
 rw [q, IntWalk.u64_in _ (by omega)]
 push_cast
 rfl
theorem shr2 {K : Value → Prop} {Q : EqK} {k' : IntKind} {w : Int} (h0 : 0 ≤ w) : xF (fBin .shr Q) [.int .u64 w, .int k' 2] K = K (.int .u64 (w / 4)) := by
 simpa using xShrG (K := K) (Q := Q) (k' := k') (s := 2) h0 (by decide)
theorem shl2 {K : Value → Prop} {Q : EqK} {k' : IntKind} {w : Int} (h0 : 0 ≤ w) (h1 : w * 4 < 18446744073709551616) : xF (fBin .shl Q) [.int .u64 w, .int k' 2] K = K (.int .u64 (w * 4)) := by
 simpa using xShlG (K := K) (Q := Q) (k' := k') (s := 2) h0 (by simpa using h1) (by decide)
theorem or2 {K : Value → Prop} {Q : EqK} {a c : Int} (h0 : 0 ≤ a) (h1 : a < 4) (h2 : 0 ≤ c) (h3 : a + c * 4 < 18446744073709551616) : xF (fBin .or Q) [.int .u64 a, .int .u64 (c * 4)] K = K (.int .u64 (a + c * 4)) := by
 simpa using xOrG (K := K) (Q := Q) (s := 2) h0 (by simpa using h1) h2 (by simpa using h3)
theorem shr3 {K : Value → Prop} {Q : EqK} {k' : IntKind} {w : Int} (h0 : 0 ≤ w) : xF (fBin .shr Q) [.int .u64 w, .int k' 3] K = K (.int .u64 (w / 8)) := by
 simpa using xShrG (K := K) (Q := Q) (k' := k') (s := 3) h0 (by decide)
theorem shl3 {K : Value → Prop} {Q : EqK} {k' : IntKind} {w : Int} (h0 : 0 ≤ w) (h1 : w * 8 < 18446744073709551616) : xF (fBin .shl Q) [.int .u64 w, .int k' 3] K = K (.int .u64 (w * 8)) := by
 simpa using xShlG (K := K) (Q := Q) (k' := k') (s := 3) h0 (by simpa using h1) (by decide)
theorem or3 {K : Value → Prop} {Q : EqK} {a c : Int} (h0 : 0 ≤ a) (h1 : a < 8) (h2 : 0 ≤ c) (h3 : a + c * 8 < 18446744073709551616) : xF (fBin .or Q) [.int .u64 a, .int .u64 (c * 8)] K = K (.int .u64 (a + c * 8)) := by
 simpa using xOrG (K := K) (Q := Q) (s := 3) h0 (by simpa using h1) h2 (by simpa using h3)
theorem shr8 {K : Value → Prop} {Q : EqK} {k' : IntKind} {w : Int} (h0 : 0 ≤ w) : xF (fBin .shr Q) [.int .u64 w, .int k' 8] K = K (.int .u64 (w / 256)) := by
 simpa using xShrG (K := K) (Q := Q) (k' := k') (s := 8) h0 (by decide)
theorem shl8 {K : Value → Prop} {Q : EqK} {k' : IntKind} {w : Int} (h0 : 0 ≤ w) (h1 : w * 256 < 18446744073709551616) : xF (fBin .shl Q) [.int .u64 w, .int k' 8] K = K (.int .u64 (w * 256)) := by
 simpa using xShlG (K := K) (Q := Q) (k' := k') (s := 8) h0 (by simpa using h1) (by decide)
theorem or8 {K : Value → Prop} {Q : EqK} {a c : Int} (h0 : 0 ≤ a) (h1 : a < 256) (h2 : 0 ≤ c) (h3 : a + c * 256 < 18446744073709551616) : xF (fBin .or Q) [.int .u64 a, .int .u64 (c * 256)] K = K (.int .u64 (a + c * 256)) := by
 simpa using xOrG (K := K) (Q := Q) (s := 8) h0 (by simpa using h1) h2 (by simpa using h3)
theorem shr16 {K : Value → Prop} {Q : EqK} {k' : IntKind} {w : Int} (h0 : 0 ≤ w) : xF (fBin .shr Q) [.int .u64 w, .int k' 16] K = K (.int .u64 (w / 65536)) := by
 simpa using xShrG (K := K) (Q := Q) (k' := k') (s := 16) h0 (by decide)
theorem shl16 {K : Value → Prop} {Q : EqK} {k' : IntKind} {w : Int} (h0 : 0 ≤ w) (h1 : w * 65536 < 18446744073709551616) : xF (fBin .shl Q) [.int .u64 w, .int k' 16] K = K (.int .u64 (w * 65536)) := by
 simpa using xShlG (K := K) (Q := Q) (k' := k') (s := 16) h0 (by simpa using h1) (by decide)
theorem or16 {K : Value → Prop} {Q : EqK} {a c : Int} (h0 : 0 ≤ a) (h1 : a < 65536) (h2 : 0 ≤ c) (h3 : a + c * 65536 < 18446744073709551616) : xF (fBin .or Q) [.int .u64 a, .int .u64 (c * 65536)] K = K (.int .u64 (a + c * 65536)) := by
 simpa using xOrG (K := K) (Q := Q) (s := 16) h0 (by simpa using h1) h2 (by simpa using h3)
theorem shr17 {K : Value → Prop} {Q : EqK} {k' : IntKind} {w : Int} (h0 : 0 ≤ w) : xF (fBin .shr Q) [.int .u64 w, .int k' 17] K = K (.int .u64 (w / 131072)) := by
 simpa using xShrG (K := K) (Q := Q) (k' := k') (s := 17) h0 (by decide)
theorem shl17 {K : Value → Prop} {Q : EqK} {k' : IntKind} {w : Int} (h0 : 0 ≤ w) (h1 : w * 131072 < 18446744073709551616) : xF (fBin .shl Q) [.int .u64 w, .int k' 17] K = K (.int .u64 (w * 131072)) := by
 simpa using xShlG (K := K) (Q := Q) (k' := k') (s := 17) h0 (by simpa using h1) (by decide)
theorem or17 {K : Value → Prop} {Q : EqK} {a c : Int} (h0 : 0 ≤ a) (h1 : a < 131072) (h2 : 0 ≤ c) (h3 : a + c * 131072 < 18446744073709551616) : xF (fBin .or Q) [.int .u64 a, .int .u64 (c * 131072)] K = K (.int .u64 (a + c * 131072)) := by
 simpa using xOrG (K := K) (Q := Q) (s := 17) h0 (by simpa using h1) h2 (by simpa using h3)
theorem shr18 {K : Value → Prop} {Q : EqK} {k' : IntKind} {w : Int} (h0 : 0 ≤ w) : xF (fBin .shr Q) [.int .u64 w, .int k' 18] K = K (.int .u64 (w / 262144)) := by
 simpa using xShrG (K := K) (Q := Q) (k' := k') (s := 18) h0 (by decide)
theorem shl18 {K : Value → Prop} {Q : EqK} {k' : IntKind} {w : Int} (h0 : 0 ≤ w) (h1 : w * 262144 < 18446744073709551616) : xF (fBin .shl Q) [.int .u64 w, .int k' 18] K = K (.int .u64 (w * 262144)) := by
 simpa using xShlG (K := K) (Q := Q) (k' := k') (s := 18) h0 (by simpa using h1) (by decide)
theorem or18 {K : Value → Prop} {Q : EqK} {a c : Int} (h0 : 0 ≤ a) (h1 : a < 262144) (h2 : 0 ≤ c) (h3 : a + c * 262144 < 18446744073709551616) : xF (fBin .or Q) [.int .u64 a, .int .u64 (c * 262144)] K = K (.int .u64 (a + c * 262144)) := by
 simpa using xOrG (K := K) (Q := Q) (s := 18) h0 (by simpa using h1) h2 (by simpa using h3)
theorem shr23 {K : Value → Prop} {Q : EqK} {k' : IntKind} {w : Int} (h0 : 0 ≤ w) : xF (fBin .shr Q) [.int .u64 w, .int k' 23] K = K (.int .u64 (w / 8388608)) := by
 simpa using xShrG (K := K) (Q := Q) (k' := k') (s := 23) h0 (by decide)
theorem shl23 {K : Value → Prop} {Q : EqK} {k' : IntKind} {w : Int} (h0 : 0 ≤ w) (h1 : w * 8388608 < 18446744073709551616) : xF (fBin .shl Q) [.int .u64 w, .int k' 23] K = K (.int .u64 (w * 8388608)) := by
 simpa using xShlG (K := K) (Q := Q) (k' := k') (s := 23) h0 (by simpa using h1) (by decide)
theorem or23 {K : Value → Prop} {Q : EqK} {a c : Int} (h0 : 0 ≤ a) (h1 : a < 8388608) (h2 : 0 ≤ c) (h3 : a + c * 8388608 < 18446744073709551616) : xF (fBin .or Q) [.int .u64 a, .int .u64 (c * 8388608)] K = K (.int .u64 (a + c * 8388608)) := by
 simpa using xOrG (K := K) (Q := Q) (s := 23) h0 (by simpa using h1) h2 (by simpa using h3)
theorem shr28 {K : Value → Prop} {Q : EqK} {k' : IntKind} {w : Int} (h0 : 0 ≤ w) : xF (fBin .shr Q) [.int .u64 w, .int k' 28] K = K (.int .u64 (w / 268435456)) := by
 simpa using xShrG (K := K) (Q := Q) (k' := k') (s := 28) h0 (by decide)
theorem shl28 {K : Value → Prop} {Q : EqK} {k' : IntKind} {w : Int} (h0 : 0 ≤ w) (h1 : w * 268435456 < 18446744073709551616) : xF (fBin .shl Q) [.int .u64 w, .int k' 28] K = K (.int .u64 (w * 268435456)) := by
 simpa using xShlG (K := K) (Q := Q) (k' := k') (s := 28) h0 (by simpa using h1) (by decide)
theorem or28 {K : Value → Prop} {Q : EqK} {a c : Int} (h0 : 0 ≤ a) (h1 : a < 268435456) (h2 : 0 ≤ c) (h3 : a + c * 268435456 < 18446744073709551616) : xF (fBin .or Q) [.int .u64 a, .int .u64 (c * 268435456)] K = K (.int .u64 (a + c * 268435456)) := by
 simpa using xOrG (K := K) (Q := Q) (s := 28) h0 (by simpa using h1) h2 (by simpa using h3)
theorem shr32 {K : Value → Prop} {Q : EqK} {k' : IntKind} {w : Int} (h0 : 0 ≤ w) : xF (fBin .shr Q) [.int .u64 w, .int k' 32] K = K (.int .u64 (w / 4294967296)) := by
 simpa using xShrG (K := K) (Q := Q) (k' := k') (s := 32) h0 (by decide)
theorem shr34 {K : Value → Prop} {Q : EqK} {k' : IntKind} {w : Int} (h0 : 0 ≤ w) : xF (fBin .shr Q) [.int .u64 w, .int k' 34] K = K (.int .u64 (w / 17179869184)) := by
 simpa using xShrG (K := K) (Q := Q) (k' := k') (s := 34) h0 (by decide)
theorem shl34 {K : Value → Prop} {Q : EqK} {k' : IntKind} {w : Int} (h0 : 0 ≤ w) (h1 : w * 17179869184 < 18446744073709551616) : xF (fBin .shl Q) [.int .u64 w, .int k' 34] K = K (.int .u64 (w * 17179869184)) := by
 simpa using xShlG (K := K) (Q := Q) (k' := k') (s := 34) h0 (by simpa using h1) (by decide)
theorem or34 {K : Value → Prop} {Q : EqK} {a c : Int} (h0 : 0 ≤ a) (h1 : a < 17179869184) (h2 : 0 ≤ c) (h3 : a + c * 17179869184 < 18446744073709551616) : xF (fBin .or Q) [.int .u64 a, .int .u64 (c * 17179869184)] K = K (.int .u64 (a + c * 17179869184)) := by
 simpa using xOrG (K := K) (Q := Q) (s := 34) h0 (by simpa using h1) h2 (by simpa using h3)
theorem shr39 {K : Value → Prop} {Q : EqK} {k' : IntKind} {w : Int} (h0 : 0 ≤ w) : xF (fBin .shr Q) [.int .u64 w, .int k' 39] K = K (.int .u64 (w / 549755813888)) := by
 simpa using xShrG (K := K) (Q := Q) (k' := k') (s := 39) h0 (by decide)
theorem shl39 {K : Value → Prop} {Q : EqK} {k' : IntKind} {w : Int} (h0 : 0 ≤ w) (h1 : w * 549755813888 < 18446744073709551616) : xF (fBin .shl Q) [.int .u64 w, .int k' 39] K = K (.int .u64 (w * 549755813888)) := by
 simpa using xShlG (K := K) (Q := Q) (k' := k') (s := 39) h0 (by simpa using h1) (by decide)
theorem or39 {K : Value → Prop} {Q : EqK} {a c : Int} (h0 : 0 ≤ a) (h1 : a < 549755813888) (h2 : 0 ≤ c) (h3 : a + c * 549755813888 < 18446744073709551616) : xF (fBin .or Q) [.int .u64 a, .int .u64 (c * 549755813888)] K = K (.int .u64 (a + c * 549755813888)) := by
 simpa using xOrG (K := K) (Q := Q) (s := 39) h0 (by simpa using h1) h2 (by simpa using h3)
theorem shr50 {K : Value → Prop} {Q : EqK} {k' : IntKind} {w : Int} (h0 : 0 ≤ w) : xF (fBin .shr Q) [.int .u64 w, .int k' 50] K = K (.int .u64 (w / 1125899906842624)) := by
 simpa using xShrG (K := K) (Q := Q) (k' := k') (s := 50) h0 (by decide)
theorem or50 {K : Value → Prop} {Q : EqK} {a c : Int} (h0 : 0 ≤ a) (h1 : a < 1125899906842624) (h2 : 0 ≤ c) (h3 : a + c * 1125899906842624 < 18446744073709551616) : xF (fBin .or Q) [.int .u64 a, .int .u64 (c * 1125899906842624)] K = K (.int .u64 (a + c * 1125899906842624)) := by
 simpa using xOrG (K := K) (Q := Q) (s := 50) h0 (by simpa using h1) h2 (by simpa using h3)
def cl (n m : Int) : Int := min (max n 0) m
theorem cl_nn {n m : Int} (h : 0 ≤ m) : 0 ≤ cl n m := by unfold cl; omega
theorem cl_le {n m : Int} : cl n m ≤ m := by unfold cl; omega
theorem cl_in {n m : Int} (h0 : 0 ≤ n) (h1 : n ≤ m) : cl n m = n := by unfold cl; omega
theorem c_fit {n m : Int} (h0 : 0 ≤ m) (h1 : m < 18446744073709551616) : s_ci [.int .i64 n, .int .i64 m] K σ = K (.int .u64 (cl n m)) σ := by
 simp only [s_ci, w_ci, ruS, Nat.reduceAdd, reduceIte, Int.reduceLT, Int.reduceLE, Int.reduceEq, Int.reduceNeg, Int.reduceAdd, Int.reduceSub]
 rw [IntWalk.u64_in _ (by omega)]; rfl
def putTop (s c : Int) : Int := cl (min s 65535 + 1) 65536 + cl c 68719476735 * 131072
theorem putTop_in (s c : Int) : 0 ≤ putTop s c ∧ putTop s c < 18446744073709551616 := by unfold putTop cl; omega
theorem c_PutTop {s c : Int} (h : -9223372036854775808 ≤ s) : s_cf [.int .i64 s, .int .i64 c] K σ = K (.int .u64 (putTop s c)) σ := by
 simp only [s_cf, w_cf, ruS, Nat.reduceAdd, reduceIte, Int.reduceLT, Int.reduceLE, Int.reduceEq, Int.reduceNeg, Int.reduceAdd, Int.reduceSub]
 have h1 := @cl_le (min s 65535 + 1) 65536
 have h2 := @cl_nn (min s 65535 + 1) 65536 (by decide)
 have h3 := @cl_le c 68719476735
 have h4 := @cl_nn c 68719476735 (by decide)
 rw [IntWalk.i64_in _ (by omega), c_fit (by decide) (by decide), c_fit (by decide) (by decide), shl17 h4 (by omega), or17 h2 (by omega) h4 (by omega)]
 rfl
def topS (w : Int) : Int := w % 131072 - 1
def topN (w : Int) : Int := w / 131072 % 68719476736
theorem c_Top {w : Int} (h0 : 0 ≤ w) (h1 : w < 18446744073709551616) : s_ch [.int .u64 w] K σ = K (.tuple #[.int .i64 (topS w), .int .i64 (topN w)]) σ := by
 simp only [s_ch, w_ch, ruS, Nat.reduceAdd, reduceIte, Int.reduceLT, Int.reduceLE, Int.reduceEq, Int.reduceNeg, Int.reduceAdd, Int.reduceSub]
 rw [and17 h0 h1]
 simp only [ruS, Nat.reduceAdd, reduceIte, Int.reduceLT, Int.reduceLE, Int.reduceEq, Int.reduceNeg, Int.reduceAdd, Int.reduceSub]
 rw [shr17 h0, and36 (by omega) (by omega)]
 simp only [ruS, Nat.reduceAdd, reduceIte, Int.reduceLT, Int.reduceLE, Int.reduceEq, Int.reduceNeg, Int.reduceAdd, Int.reduceSub]
 rw [IntWalk.i64_in (w % 131072) (by omega), IntWalk.i64_in (w % 131072 - 1) (by omega), IntWalk.i64_in (w / 131072 % 68719476736) (by omega)]
 rfl
def putSlot (st ad ge ve : Int) : Int := cl st 7 + cl ad 1048575 * 8 + cl ge 65535 * 8388608 + cl ve 4194303 * 549755813888
theorem putSlot_in (st ad ge ve : Int) : 0 ≤ putSlot st ad ge ve ∧ putSlot st ad ge ve < 18446744073709551616 := by unfold putSlot cl; omega
theorem c_PutSlot {st ad ge ve : Int} : s_ce [.agg #[.int .i64 st, .int .i64 ad, .int .i64 ge, .int .i64 ve]] K σ = K (.int .u64 (putSlot st ad ge ve)) σ := by
 simp only [s_ce, w_ce, ruS, ruL, ruX, Nat.reduceAdd, reduceIte, Int.reduceLT, Int.reduceLE, Int.reduceEq, Int.reduceNeg, Int.reduceAdd, Int.reduceSub, Nat.reduceLeDiff]
 have h1 := @cl_le st 7
 have h2 := @cl_nn st 7 (by decide)
 have h3 := @cl_le ad 1048575
 have h4 := @cl_nn ad 1048575 (by decide)
 have h5 := @cl_le ge 65535
 have h6 := @cl_nn ge 65535 (by decide)
 have h7 := @cl_le ve 4194303
 have h8 := @cl_nn ve 4194303 (by decide)
 rw [c_fit (by decide) (by decide), c_fit (by decide) (by decide), shl3 h4 (by omega), or3 h2 (by omega) h4 (by omega), c_fit (by decide) (by decide), shl23 h6 (by omega), or23 (by omega) (by omega) h6 (by omega),
  c_fit (by decide) (by decide), shl39 h8 (by omega), or39 (by omega) (by omega) h8 (by omega)]
 rfl
structure isA (N : Nm) (A : Ar) (σ : Mem) : Prop where
 m : σ.get N.m = some ⟨A.mc N, true⟩
 w : σ.get N.w = some A.wb
 t : σ.get N.t = some A.tb
def Ext (σ τ : Mem) : Prop := ∀ i b, σ.get i = some b → τ.get i = some b
def Keep (L : List Nat) (σ τ : Mem) : Prop := ∀ i b, σ.get i = some b → i ∉ L → τ.get i = some b
theorem Ext.refl : Ext σ σ := fun _ _ h => h
theorem Ext.trans {τ υ : Mem} (h : Ext σ τ) (k : Ext τ υ) : Ext σ υ := fun i b q => k i b (h i b q)
theorem Keep.refl {L : List Nat} : Keep L σ σ := fun _ _ h _ => h
theorem Keep.trans {L : List Nat} {τ υ : Mem} (h : Keep L σ τ) (k : Keep L τ υ) : Keep L σ υ := fun i b q n => k i b (h i b q n) n
theorem Keep.mono {L L' : List Nat} {τ : Mem} (h : Keep L σ τ) (hl : ∀ i ∈ L, i ∈ L') : Keep L' σ τ := fun i b q n => h i b q fun hi => n (hl i hi)
theorem Ext.keep {L : List Nat} {τ : Mem} (h : Ext σ τ) : Keep L σ τ := fun i b q _ => h i b q
theorem Ext.fresh {id : Nat} {b : Blk} (h : σ.get id = none) : Ext σ (σ.set id b) := by
 intro i c hi
 rw [Mem.get_set_ne _ _ (by rintro rfl; rw [h] at hi; cases hi)]
 exact hi
theorem isA_put (h : N.ok) : isA N A (putA N A σ) := ⟨putA_m, putA_w h, putA_t h⟩
theorem isA.eq (h : isA N A σ) : σ = putA N A σ := by
 unfold putA
 rw [Mem.set_self h.t, Mem.set_self h.w, Mem.set_self h.m]
theorem isA.ext {τ : Mem} (h : isA N A σ) (k : Ext σ τ) : isA N A τ := ⟨k _ _ h.m, k _ _ h.w, k _ _ h.t⟩
def Nm.l (N : Nm) : List Nat := [N.m, N.w, N.t]
theorem isA.keep {L : List Nat} {τ : Mem} (h : isA N A σ) (k : Keep L σ τ) (hd : N.m ∉ L ∧ N.w ∉ L ∧ N.t ∉ L) : isA N A τ := ⟨k _ _ h.m hd.1, k _ _ h.w hd.2.1, k _ _ h.t hd.2.2⟩
theorem Keep.put : Keep N.l σ (putA N A σ) := by
 intro i b hi hn
 simp only [Nm.l, List.mem_cons, List.not_mem_nil, or_false, not_or] at hn
 rw [putA_ne hn.1 hn.2.1 hn.2.2]; exact hi
theorem isA.fresh (h : isA N A σ) {id : Nat} (hid : σ.get id = none) : id ≠ N.m ∧ id ≠ N.w ∧ id ≠ N.t :=
 ⟨fun e => (by rw [e, h.m] at hid; cases hid), fun e => (by rw [e, h.w] at hid; cases hid), fun e => (by rw [e, h.t] at hid; cases hid)⟩
structure Cf.ok (c : Cf) : Prop where
 T : 1 ≤ c.T ∧ c.T ≤ 8
 S : 1 ≤ c.S ∧ c.S ≤ 65536
 C : 1 ≤ c.C ∧ c.C ≤ 64
 W : 17 ≤ c.W ∧ c.W ≤ 256
 G : 1 ≤ c.G ∧ c.G ≤ 65535
 P : 0 ≤ c.P ∧ c.P ≤ 1000
 R : 1 ≤ c.R ∧ c.R ≤ 16
def Cf.slot (c : Cf) (s : Int) : Int := 6 + c.T + 2 * s
def Cf.chunk (c : Cf) (k : Int) : Int := 6 + c.T + 2 * c.S + 3 * k
def Cf.base (c : Cf) (k : Int) : Int := 6 + c.T + 2 * c.S + 3 * c.C + c.W * k
def Cf.len (c : Cf) : Int := c.base c.C
theorem mulW {c : Cf} (h : c.ok) {k : Int} (h0 : 0 ≤ k) (h1 : k ≤ 1048576) : 0 ≤ c.W * k ∧ c.W * k ≤ 268435456 := by
 have hW := h.W
 refine ⟨Int.mul_nonneg (by omega) h0, ?_⟩
 calc c.W * k ≤ 256 * k := Int.mul_le_mul_of_nonneg_right hW.2 h0
  _ ≤ 268435456 := by omega
theorem c_lTop : s_bj [] K σ = K (.int .i64 1) σ := by simp only [s_bj, w_bj, ruS, Nat.reduceAdd, reduceIte, Int.reduceLT, Int.reduceLE, Int.reduceEq, Int.reduceNeg, Int.reduceAdd, Int.reduceSub]
theorem c_Open {k : Int} (h0 : 0 ≤ k) (h1 : k ≤ 65536) : s_bg [.int .i64 k] K σ = K (.int .i64 (2 + k)) σ := by
 simp only [s_bg, w_bg, ruS, Nat.reduceAdd, reduceIte, Int.reduceLT, Int.reduceLE, Int.reduceEq, Int.reduceNeg, Int.reduceAdd, Int.reduceSub]
 rw [IntWalk.i64_in _ (by omega)]
theorem c_Slot (h : C.ok) {s : Int} (h0 : 0 ≤ s) (h1 : s ≤ 65536) : s_bi [C.v, .int .i64 s] K σ = K (.int .i64 (C.slot s)) σ := by
 have := h.T
 simp only [s_bi, w_bi, Cf.v, ruS, ruL, ruX, Nat.reduceAdd, reduceIte, Int.reduceLT, Int.reduceLE, Int.reduceEq, Int.reduceNeg, Int.reduceAdd, Int.reduceSub, Nat.reduceLeDiff]
 rw [IntWalk.i64_in (6 + C.T) (by omega), IntWalk.i64_in (2 * s) (by omega), IntWalk.i64_in _ (by omega)]; rfl
theorem c_Chunk (h : C.ok) {s : Int} (h0 : 0 ≤ s) (h1 : s ≤ 65536) : s_a6 [C.v, .int .i64 s] K σ = K (.int .i64 (C.chunk s)) σ := by
 have := h.T
 have := h.S
 simp only [s_a6, w_a6, Cf.v, ruS, ruL, ruX, Nat.reduceAdd, reduceIte, Int.reduceLT, Int.reduceLE, Int.reduceEq, Int.reduceNeg, Int.reduceAdd, Int.reduceSub, Nat.reduceLeDiff]
 rw [IntWalk.i64_in (6 + C.T) (by omega), IntWalk.i64_in (2 * C.S) (by omega), IntWalk.i64_in (3 * s) (by omega), IntWalk.i64_in (6 + C.T + 2 * C.S) (by omega), IntWalk.i64_in _ (by omega)]; rfl
theorem c_Base (h : C.ok) {s : Int} (h0 : 0 ≤ s) (h1 : s ≤ 65536) : s_a4 [C.v, .int .i64 s] K σ = K (.int .i64 (C.base s)) σ := by
 have := h.T
 have := h.S
 have := h.C
 have := mulW h h0 (by omega)
 simp only [s_a4, w_a4, Cf.v, ruS, ruL, ruX, Nat.reduceAdd, reduceIte, Int.reduceLT, Int.reduceLE, Int.reduceEq, Int.reduceNeg, Int.reduceAdd, Int.reduceSub, Nat.reduceLeDiff]
 rw [IntWalk.i64_in (6 + C.T) (by omega), IntWalk.i64_in (2 * C.S) (by omega), IntWalk.i64_in (3 * C.C) (by omega), IntWalk.i64_in (6 + C.T + 2 * C.S) (by omega), IntWalk.i64_in (6 + C.T + 2 * C.S + 3 * C.C) (by omega), IntWalk.i64_in (C.W * s) (by omega), IntWalk.i64_in _ (by omega)]; rfl
theorem c_lLen (h : C.ok) : s_be [C.v] K σ = K (.int .i64 C.len) σ := by
 have := h.C
 have e := fun (K : Value → Mem → Prop) σ => c_Base (K := K) (σ := σ) h (s := C.C) (by omega) (by omega)
 simp only [s_be, w_be, Cf.v, ruS, ruL, ruX, Nat.reduceAdd, reduceIte, Int.reduceLT, Int.reduceLE, Int.reduceEq, Int.reduceNeg, Int.reduceAdd, Int.reduceSub, Nat.reduceLeDiff] at e ⊢
 rw [e]; rfl
section
variable {K : Value → Prop}
theorem shl2_0 : xF (fBin .shl .no) [.int .i64 2, .int .i64 0] K = K (.int .i64 2) := nr rfl
theorem shl2_1 : xF (fBin .shl .no) [.int .i64 2, .int .i64 1] K = K (.int .i64 4) := nr rfl
theorem shl2_2 : xF (fBin .shl .no) [.int .i64 2, .int .i64 2] K = K (.int .i64 8) := nr rfl
theorem shl2_3 : xF (fBin .shl .no) [.int .i64 2, .int .i64 3] K = K (.int .i64 16) := nr rfl
end
theorem i64_1 : IntKind.i64.wrap 1 = 1 := nr rfl
theorem i64_2 : IntKind.i64.wrap 2 = 2 := nr rfl
theorem i64_3 : IntKind.i64.wrap 3 = 3 := nr rfl
theorem i64_4 : IntKind.i64.wrap 4 = 4 := nr rfl
theorem i64_5 : IntKind.i64.wrap 5 = 5 := nr rfl
theorem i64_9 : IntKind.i64.wrap 9 = 9 := nr rfl
theorem i64_17 : IntKind.i64.wrap 17 = 17 := nr rfl
def classOf (n : Int) : Int := if n < 1 then -1 else if n ≤ 2 then 0 else if n ≤ 4 then 1 else if n ≤ 8 then 2 else if n ≤ 16 then 3 else -1
theorem c_Class {n : Int} (hk : K (.int .i64 (classOf n)) σ) : s_a7 [.int .i64 n] K σ := by
 simp only [s_a7, w_a7, ruS, Nat.reduceAdd, reduceIte, Int.reduceLT, Int.reduceLE, Int.reduceEq, Int.reduceNeg, Int.reduceAdd, Int.reduceSub]
 by_cases h : 1 ≤ n
 ·unfold classOf at hk
  rw [if_neg (by omega)] at hk
  refine xLoop_fold ?_
  simp only [w_layout_Class_l3, w_layout_Class_l3b, w_a7_j2, w_a7_j2b, w_a7_j1, w_a7_j1b, ruS, Nat.reduceAdd, reduceIte, Int.reduceLT, Int.reduceLE, Int.reduceEq, Int.reduceNeg, Int.reduceAdd, Int.reduceSub, h, shl2_0, i64_1]
  by_cases h1 : n ≤ 2
  ·rw [if_pos h1] at hk ⊢; exact hk
  rw [if_neg h1] at hk ⊢
  refine xLoop_fold ?_
  simp only [w_layout_Class_l3, w_layout_Class_l3b, w_a7_j2, w_a7_j2b, w_a7_j1, w_a7_j1b, ruS, Nat.reduceAdd, reduceIte, Int.reduceLT, Int.reduceLE, Int.reduceEq, Int.reduceNeg, Int.reduceAdd, Int.reduceSub, h, shl2_1, i64_2]
  by_cases h1 : n ≤ 4
  ·rw [if_pos h1] at hk ⊢; exact hk
  rw [if_neg h1] at hk ⊢
  refine xLoop_fold ?_
  simp only [w_layout_Class_l3, w_layout_Class_l3b, w_a7_j2, w_a7_j2b, w_a7_j1, w_a7_j1b, ruS, Nat.reduceAdd, reduceIte, Int.reduceLT, Int.reduceLE, Int.reduceEq, Int.reduceNeg, Int.reduceAdd, Int.reduceSub, h, shl2_2, i64_3]
  by_cases h1 : n ≤ 8
  ·rw [if_pos h1] at hk ⊢; exact hk
  rw [if_neg h1] at hk ⊢
  refine xLoop_fold ?_
  simp only [w_layout_Class_l3, w_layout_Class_l3b, w_a7_j2, w_a7_j2b, w_a7_j1, w_a7_j1b, ruS, Nat.reduceAdd, reduceIte, Int.reduceLT, Int.reduceLE, Int.reduceEq, Int.reduceNeg, Int.reduceAdd, Int.reduceSub, h, shl2_3, i64_4]
  by_cases h1 : n ≤ 16
  ·rw [if_pos h1] at hk ⊢; exact hk
  rw [if_neg h1] at hk ⊢
  refine xLoop_fold ?_
  simp only [w_layout_Class_l3, w_layout_Class_l3b, w_a7_j2, w_a7_j2b, w_a7_j1, w_a7_j1b, ruS, Nat.reduceAdd, reduceIte, Int.reduceLT, Int.reduceLE, Int.reduceEq, Int.reduceNeg, Int.reduceAdd, Int.reduceSub]
  exact hk
 ·unfold classOf at hk
  rw [if_pos (by omega)] at hk
  refine xLoop_fold ?_
  simp only [w_layout_Class_l3, w_layout_Class_l3b, w_a7_j2, w_a7_j2b, w_a7_j1, w_a7_j1b, ruS, Nat.reduceAdd, reduceIte, Int.reduceLT, Int.reduceLE, Int.reduceEq, Int.reduceNeg, Int.reduceAdd, Int.reduceSub, h, i64_1]
  refine xLoop_fold ?_
  simp only [w_layout_Class_l3, w_layout_Class_l3b, w_a7_j2, w_a7_j2b, w_a7_j1, w_a7_j1b, ruS, Nat.reduceAdd, reduceIte, Int.reduceLT, Int.reduceLE, Int.reduceEq, Int.reduceNeg, Int.reduceAdd, Int.reduceSub, h, i64_2]
  refine xLoop_fold ?_
  simp only [w_layout_Class_l3, w_layout_Class_l3b, w_a7_j2, w_a7_j2b, w_a7_j1, w_a7_j1b, ruS, Nat.reduceAdd, reduceIte, Int.reduceLT, Int.reduceLE, Int.reduceEq, Int.reduceNeg, Int.reduceAdd, Int.reduceSub, h, i64_3]
  refine xLoop_fold ?_
  simp only [w_layout_Class_l3, w_layout_Class_l3b, w_a7_j2, w_a7_j2b, w_a7_j1, w_a7_j1b, ruS, Nat.reduceAdd, reduceIte, Int.reduceLT, Int.reduceLE, Int.reduceEq, Int.reduceNeg, Int.reduceAdd, Int.reduceSub, h, i64_4]
  refine xLoop_fold ?_
  simp only [w_layout_Class_l3, w_layout_Class_l3b, w_a7_j2, w_a7_j2b, w_a7_j1, w_a7_j1b, ruS, Nat.reduceAdd, reduceIte, Int.reduceLT, Int.reduceLE, Int.reduceEq, Int.reduceNeg, Int.reduceAdd, Int.reduceSub]
  exact hk
def roomOf (k : Int) : Int := if k = 0 then 3 else if k = 1 then 5 else if k = 2 then 9 else 17
theorem c_Room {k : Int} (h0 : 0 ≤ k) (h1 : k ≤ 3) : s_bh [.int .i64 k] K σ = K (.int .i64 (roomOf k)) σ := by
 simp only [s_bh, w_bh, ruS, Nat.reduceAdd, reduceIte, Int.reduceLT, Int.reduceLE, Int.reduceEq, Int.reduceNeg, Int.reduceAdd, Int.reduceSub]
 rcases (show k = 0 ∨ k = 1 ∨ k = 2 ∨ k = 3 by omega) with rfl | rfl | rfl | rfl <;>
  simp only [shl2_0, shl2_1, shl2_2, shl2_3, ruS, Nat.reduceAdd, reduceIte, Int.reduceLT, Int.reduceLE, Int.reduceEq, Int.reduceNeg, Int.reduceAdd, Int.reduceSub, i64_3, i64_5, i64_9, i64_17] <;> rfl
end Go.Fl
namespace Go.Fl
open Go
set_option linter.unusedVariables false
set_option linter.unusedSimpArgs false
variable {N : Nm} {A B : Ar} {σ : Mem} {K : Value → Mem → Prop} {C : Cf} {who : Int}
def Cf.okB (c : Cf) : Bool :=
 (decide (1 ≤ c.T) && decide (c.T ≤ 8) && decide (1 ≤ c.S) && decide (c.S ≤ 65536)) && (decide (1 ≤ c.C) && decide (c.C ≤ 64) && decide (17 ≤ c.W) && decide (c.W ≤ 256)) &&
 (decide (1 ≤ c.G) && decide (c.G ≤ 65535) && decide (0 ≤ c.P) && decide (c.P ≤ 1000) && decide (1 ≤ c.R) && decide (c.R ≤ 16))
theorem Cf.okB_iff {c : Cf} : c.okB = true ↔ c.ok := by
 simp only [Cf.okB, Bool.and_eq_true, decide_eq_true_eq]
 constructor
 ·rintro ⟨⟨⟨⟨⟨a, b⟩, d⟩, e⟩, ⟨⟨f, g⟩, h⟩, i⟩, ⟨⟨⟨⟨j, k⟩, l⟩, m⟩, n⟩, o⟩
  exact ⟨⟨a, b⟩, ⟨d, e⟩, ⟨f, g⟩, ⟨h, i⟩, ⟨j, k⟩, ⟨l, m⟩, ⟨n, o⟩⟩
 ·rintro ⟨⟨a, b⟩, ⟨d, e⟩, ⟨f, g⟩, ⟨h, i⟩, ⟨j, k⟩, ⟨l, m⟩, ⟨n, o⟩⟩
  exact ⟨⟨⟨⟨⟨a, b⟩, d⟩, e⟩, ⟨⟨f, g⟩, h⟩, i⟩, ⟨⟨⟨⟨j, k⟩, l⟩, m⟩, n⟩, o⟩
theorem check_j3 {x y z : Bool} : w_a5_j3b K (.bool x) (.bool y) (.bool z) σ = K (.bool (x && y && z)) σ := by
 simp only [w_a5_j3b, ruS, ruL, ruX, Nat.reduceAdd, reduceIte, Int.reduceLT, Int.reduceLE, Int.reduceEq, Int.reduceNeg, Int.reduceAdd, Int.reduceSub, Nat.reduceLeDiff]
 cases x <;> cases y <;> cases z <;> simp only [ruS, ruL, ruX, Nat.reduceAdd, reduceIte, Int.reduceLT, Int.reduceLE, Int.reduceEq, Int.reduceNeg, Int.reduceAdd, Int.reduceSub, Nat.reduceLeDiff, Bool.and_true, Bool.and_false, Bool.false_and, Bool.true_and]
theorem check_j2 {x y : Bool} : w_a5_j2b K (.bool x) (.bool y) C.l σ = K (.bool (x && y && (decide (1 ≤ C.G) && decide (C.G ≤ 65535) && decide (0 ≤ C.P) && decide (C.P ≤ 1000) && decide (1 ≤ C.R) && decide (C.R ≤ 16)))) σ := by
 simp only [w_a5_j2b, w_a5_j3, Cf.l, ruS, ruL, ruX, Nat.reduceAdd, reduceIte, Int.reduceLT, Int.reduceLE, Int.reduceEq, Int.reduceNeg, Int.reduceAdd, Int.reduceSub, Nat.reduceLeDiff, check_j3]
 by_cases h1 : 1 ≤ C.G <;> by_cases h2 : C.G ≤ 65535 <;> by_cases h3 : 0 ≤ C.P <;> by_cases h4 : C.P ≤ 1000 <;> by_cases h5 : 1 ≤ C.R <;>
  simp only [h1, h2, h3, h4, h5, ruS, ruL, ruX, Nat.reduceAdd, reduceIte, Int.reduceLT, Int.reduceLE, Int.reduceEq, Int.reduceNeg, Int.reduceAdd, Int.reduceSub, Nat.reduceLeDiff, check_j3, Bool.and_true, Bool.and_false, Bool.false_and, Bool.true_and]
theorem c_Check : s_a5 [C.v] K σ = K (.bool C.okB) σ := by
 have j1 : ∀ {x : Bool}, w_a5_j1b K (.bool x) C.l σ = K (.bool (x && (decide (1 ≤ C.C) && decide (C.C ≤ 64) && decide (17 ≤ C.W) && decide (C.W ≤ 256)) && (decide (1 ≤ C.G) && decide (C.G ≤ 65535) && decide (0 ≤ C.P) && decide (C.P ≤ 1000) && decide (1 ≤ C.R) && decide (C.R ≤ 16)))) σ := by
  intro x
  have e := @check_j2 σ K C
  simp only [Cf.l] at e
  simp only [w_a5_j1b, w_a5_j2, Cf.l, ruS, ruL, ruX, Nat.reduceAdd, reduceIte, Int.reduceLT, Int.reduceLE, Int.reduceEq, Int.reduceNeg, Int.reduceAdd, Int.reduceSub, Nat.reduceLeDiff]
  by_cases h1 : 1 ≤ C.C <;> by_cases h2 : C.C ≤ 64 <;> by_cases h3 : 17 ≤ C.W <;>
   simp only [h1, h2, h3, ruS, ruL, ruX, Nat.reduceAdd, reduceIte, Int.reduceLT, Int.reduceLE, Int.reduceEq, Int.reduceNeg, Int.reduceAdd, Int.reduceSub, Nat.reduceLeDiff, e, Bool.and_true, Bool.and_false, Bool.false_and, Bool.true_and]
 simp only [Cf.l] at j1
 simp only [s_a5, w_a5, w_a5_j1, Cf.v, ruS, ruL, ruX, Nat.reduceAdd, reduceIte, Int.reduceLT, Int.reduceLE, Int.reduceEq, Int.reduceNeg, Int.reduceAdd, Int.reduceSub, Nat.reduceLeDiff]
 unfold Cf.okB
 by_cases h1 : 1 ≤ C.T <;> by_cases h2 : C.T ≤ 8 <;> by_cases h3 : 1 ≤ C.S <;>
  simp only [h1, h2, h3, ruS, ruL, ruX, Nat.reduceAdd, reduceIte, Int.reduceLT, Int.reduceLE, Int.reduceEq, Int.reduceNeg, Int.reduceAdd, Int.reduceSub, Nat.reduceLeDiff, j1, Bool.and_true, Bool.and_false, Bool.false_and, Bool.true_and]
theorem hMakeS_eq {es by' : Nat} {z : List Value} {n : Int} {K : Value → Mem → Prop} {σ : Mem} (h0 : 0 ≤ n) (h1 : n ≤ 1073741824) (hb : by' ≤ 1024) :
  hMakeS es by' z [.int .i64 n, .int .i64 n] K σ = newB (List.replicate n.toNat z).flatten (fun id => .slice (some ⟨id, 0, none⟩) n.toNat es) K σ := by
 simp only [hMakeS]
 rw [if_pos ⟨trivial, h0, h1, hb⟩]
theorem hBox_a {cs : List Value} {sz : Nat} {K : Value → Mem → Prop} {σ : Mem} (h : cs.length = sz) :
  hBox sz [.agg cs.toArray] K σ = newB cs (fun id => .pointer (some ⟨id, 0, none⟩)) K σ := by
 subst h
 have : cellsOf (.agg cs.toArray) cs.length = some cs := by simp [cellsOf]
 simp only [hBox, this]
def Ar.new (n : Nat) : Ar := ⟨n, fun _ => 0, fun _ => 0, 0, 0, 0, 0, false⟩
structure Nm.fr (N : Nm) (σ : Mem) : Prop where
 m : σ.get N.m = none
 w : σ.get N.w = none
 t : σ.get N.t = none
theorem xBuildMem {a b : Value} {K : Value → Prop} (ha : cellsOf a 1 = some [a]) (hb : cellsOf b 1 = some [b]) :
  xF (fBuild [(0, 1), (1, 1), (2, 1), (3, 1), (4, 3)] [.slice none 0 0, .slice none 0 0, .int .i64 0, .int .i64 0, .int .i64 0, .int .i64 0, .bool false] [0, 1]) [a, b] K =
   K (.agg #[a, b, .int .i64 0, .int .i64 0, .int .i64 0, .int .i64 0, .bool false]) := by
 simp [xF, fBuild, fillL, ha, hb, lay]
theorem c_New {n : Int} (h0 : 1 ≤ n) (h1 : n ≤ 1048576) (hk : ∀ N τ, N.ok → isA N (.new n.toNat) τ → Ext σ τ → N.fr σ → K (.tuple #[N.p, .int .i64 0]) τ) : s_bt [.int .i64 n] K σ := by
 simp only [s_bt, w_bt, w_bt_j1, w_bt_j1b, ruS, Nat.reduceAdd, reduceIte, Int.reduceLT, Int.reduceLE, Int.reduceEq, Int.reduceNeg, Int.reduceAdd, Int.reduceSub]
 rw [if_neg (by omega), if_neg (by omega)]
 rw [hMakeS_eq (by omega) (by omega) (by decide)]
 intro w hw
 rw [hMakeS_eq (by omega) (by omega) (by decide)]
 intro t ht
 rw [xBuildMem rfl rfl]
 refine (hBox_a (cs := [_, _, _, _, _, _, _]) rfl).mpr ?_
 intro m hm
 simp only [ruS, Nat.reduceAdd, reduceIte, Int.reduceLT, Int.reduceLE, Int.reduceEq, Int.reduceNeg, Int.reduceAdd, Int.reduceSub]
 have hwt : w ≠ t := by rintro rfl; simp at ht
 have hmt : m ≠ t := by rintro rfl; simp at hm
 have hmw : m ≠ w := by
  rintro rfl
  rw [Mem.get_set_ne _ _ hwt, Mem.get_set_same] at hm; cases hm
 refine hk ⟨m, w, t⟩ _ ⟨hmw, hmt, hwt⟩ ⟨?_, ?_, ?_⟩ ?_ ⟨?_, hw, ?_⟩
 ·rw [Mem.get_set_same]; rfl
 ·rw [Mem.get_set_ne _ _ hmw.symm, Mem.get_set_ne _ _ hwt, Mem.get_set_same, cells_repl]; rfl
 ·rw [Mem.get_set_ne _ _ hmt.symm, Mem.get_set_same, cells_repl]; rfl
 ·exact ((Ext.fresh hw).trans (Ext.fresh ht)).trans (Ext.fresh hm)
 ·rw [Mem.get_set_ne _ _ hmt, Mem.get_set_ne _ _ hmw] at hm; exact hm
 ·rw [Mem.get_set_ne _ _ hwt.symm] at ht; exact ht
def Nm.el (N : Nm) (c : Cf) (who : Int) : List Value := [.int .i64 c.T, .int .i64 c.S, .int .i64 c.C, .int .i64 c.W, .int .i64 c.G, .int .i64 c.P, .int .i64 c.R, N.p, .int .i64 who]
section
variable {c : Cf} {l : List Value}
theorem gBoxC : gBox 7 [c.v] l = some c.l := nr rfl
theorem subC : sub c.l 0 7 true = some c.v := nr rfl
theorem subC0 : sub c.l 0 1 false = some (.int .i64 c.T) := nr rfl
theorem subC1 : sub c.l 1 1 false = some (.int .i64 c.S) := nr rfl
theorem subC2 : sub c.l 2 1 false = some (.int .i64 c.C) := nr rfl
theorem subC3 : sub c.l 3 1 false = some (.int .i64 c.W) := nr rfl
theorem subC4 : sub c.l 4 1 false = some (.int .i64 c.G) := nr rfl
theorem subC5 : sub c.l 5 1 false = some (.int .i64 c.P) := nr rfl
theorem subC6 : sub c.l 6 1 false = some (.int .i64 c.R) := nr rfl
theorem gBoxE : gBox 9 [N.env c who] l = some (N.el c who) := nr rfl
theorem subE : sub (N.el c who) 0 9 true = some (N.env c who) := nr rfl
theorem subEC : sub (N.el c who) 0 7 true = some c.v := nr rfl
theorem subE0 : sub (N.el c who) 0 1 false = some (.int .i64 c.T) := nr rfl
theorem subE1 : sub (N.el c who) 1 1 false = some (.int .i64 c.S) := nr rfl
theorem subE2 : sub (N.el c who) 2 1 false = some (.int .i64 c.C) := nr rfl
theorem subE3 : sub (N.el c who) 3 1 false = some (.int .i64 c.W) := nr rfl
theorem subE4 : sub (N.el c who) 4 1 false = some (.int .i64 c.G) := nr rfl
theorem subE6 : sub (N.el c who) 6 1 false = some (.int .i64 c.R) := nr rfl
theorem subE7 : sub (N.el c who) 7 1 false = some N.p := nr rfl
theorem subE8 : sub (N.el c who) 8 1 false = some (.int .i64 who) := nr rfl
end
section
variable {a o v d : Int}
@[simp] theorem by_n : (A.by who).n = A.n := rfl
@[simp] theorem by_w : (A.by who).w = A.w := rfl
@[simp] theorem by_t : (A.by who).t = A.t := rfl
@[simp] theorem by_s : (A.by who).s = A.s := rfl
@[simp] theorem load_n : (A.load a).n = A.n := rfl
@[simp] theorem load_w : (A.load a).w = A.w := rfl
@[simp] theorem load_t : (A.load a).t = A.t := rfl
@[simp] theorem load_s : (A.load a).s = IntKind.i64.wrap (A.s + 1) := rfl
@[simp] theorem load_la : (A.load a).la = a := rfl
@[simp] theorem load_lc : (A.load a).lc = false := rfl
@[simp] theorem store_n : (A.store a v).n = A.n := rfl
@[simp] theorem store_w : (A.store a v).w = upd A.w a v := rfl
@[simp] theorem store_s : (A.store a v).s = IntKind.i64.wrap (A.s + 1) := rfl
@[simp] theorem store_la : (A.store a v).la = a := rfl
@[simp] theorem store_lc : (A.store a v).lc = decide (A.w a ≠ v) := rfl
theorem store_t : (A.store a v).t = if A.w a ≠ v then upd A.t a (IntKind.i64.wrap (A.s + 1)) else A.t := rfl
@[simp] theorem cas_n : (A.cas a o v).n = A.n := by unfold Ar.cas; split <;> rfl
@[simp] theorem cas_s : (A.cas a o v).s = IntKind.i64.wrap (A.s + 1) := by unfold Ar.cas; split <;> rfl
@[simp] theorem cas_la : (A.cas a o v).la = a := by unfold Ar.cas; split <;> rfl
theorem cas_no (h : A.w a ≠ o) : A.cas a o v = A.load a := by unfold Ar.cas; rw [if_neg h]; rfl
theorem cas_yes (h : A.w a = o) : A.cas a o v = A.store a v := by unfold Ar.cas; rw [if_pos h]; rfl
end
structure Ar.ok (A : Ar) (b : Int) : Prop where
 w : ∀ i, 0 ≤ A.w i ∧ A.w i < 18446744073709551616
 s : 0 ≤ A.s ∧ A.s ≤ b
 t : ∀ i, 0 ≤ A.t i ∧ A.t i ≤ A.s
theorem Ar.ok.s1 {b : Int} (h : A.ok b) (hb : b < 9223372036854775807) : IntKind.i64.wrap (A.s + 1) = A.s + 1 := IntWalk.i64_in _ (by have := h.s; omega)
theorem Ar.ok.by {b : Int} (h : A.ok b) : (A.by who).ok b := ⟨h.w, h.s, h.t⟩
theorem Ar.ok.load {b a : Int} (h : A.ok b) (hb : b < 9223372036854775807) : (A.load a).ok (b + 1) := by
 refine ⟨h.w, ?_, fun i => ?_⟩
 ·rw [load_s, h.s1 hb]; have := h.s; omega
 ·rw [load_s, h.s1 hb, load_t]; have := h.t i; omega
theorem upd_cases {f : Int → Int} {a v i : Int} {P : Int → Prop} (h1 : P v) (h2 : P (f i)) : P (upd f a v i) := by unfold upd; split <;> assumption
theorem Ar.ok.store {b a v : Int} (h : A.ok b) (hb : b < 9223372036854775807) (hv : 0 ≤ v ∧ v < 18446744073709551616) : (A.store a v).ok (b + 1) := by
 refine ⟨fun i => upd_cases (P := fun x => 0 ≤ x ∧ x < 18446744073709551616) hv (h.w i), ?_, fun i => ?_⟩
 ·rw [store_s, h.s1 hb]; have := h.s; omega
 ·rw [store_s, h.s1 hb, store_t]
  have := h.t i
  have := h.s
  split
  ·rw [h.s1 hb]; exact upd_cases (P := fun x => 0 ≤ x ∧ x ≤ A.s + 1) (by omega) (by omega)
  ·omega
theorem Ar.ok.cas {b a o v : Int} (h : A.ok b) (hb : b < 9223372036854775807) (hv : 0 ≤ v ∧ v < 18446744073709551616) : (A.cas a o v).ok (b + 1) := by
 by_cases hc : A.w a = o
 ·rw [cas_yes hc]; exact h.store hb hv
 ·rw [cas_no hc]; exact h.load hb
theorem wrap_in (n : Int) : 0 ≤ IntKind.u64.wrap n ∧ IntKind.u64.wrap n < 18446744073709551616 := by rw [IntKind.wrap_u64]; omega
theorem Ar.ok.add {b a d : Int} (h : A.ok b) (hb : b < 9223372036854775807) : (A.add a d).ok (b + 1) := h.store hb (wrap_in _)
def Cf.fr (c : Cf) (i : Int) (a : Int) : Int :=
 if c.slot 0 ≤ a ∧ a < c.slot i then (if (a - c.slot 0) % 2 = 0 then putSlot 0 0 1 0 else putTop ((a - c.slot 0) / 2 + 1) 0) else 0
def Cf.w0 (c : Cf) (a : Int) : Int := if a = 1 then putTop 0 0 else if a = c.slot (c.S - 1) + 1 then putTop (-1) 0 else c.fr c.S a
structure FrI (N : Nm) (C : Cf) (σ0 : Mem) (i : Int) (A : Ar) (σ : Mem) : Prop where
 i0 : 0 ≤ i
 i1 : i ≤ C.S
 n : A.n = C.len.toNat
 w : A.w = C.fr i
 s : A.s = 2 * i
 who : A.who = 0
 ok : A.ok (2 * i)
 isA : isA N A σ
 ext : Ext σ0 σ
 fr : N.fr σ0
theorem Ext.put {σ0 : Mem} (h : Ext σ0 σ) (f : N.fr σ0) : Ext σ0 (putA N A σ) := by
 intro i b hi
 rw [putA_ne (fun e => by rw [e, f.m] at hi; cases hi) (fun e => by rw [e, f.w] at hi; cases hi) (fun e => by rw [e, f.t] at hi; cases hi)]
 exact h i b hi
theorem len_eq : C.len = 6 + C.T + 2 * C.S + 3 * C.C + C.W * C.C := rfl
theorem len_bd (h : C.ok) : C.chunk C.C + 17 ≤ C.len ∧ C.len ≤ 200000 := by
 have hW := h.W
 have hC := h.C
 have hS := h.S
 have hT := h.T
 have h1 : 17 * 1 ≤ C.W * C.C := Int.mul_le_mul hW.1 hC.1 (by omega) (by omega)
 have h2 : C.W * C.C ≤ 256 * 64 := Int.mul_le_mul hW.2 hC.2 (by omega) (by omega)
 rw [len_eq]; unfold Cf.chunk
 omega
theorem xBuildSlotG {K : Value → Prop} {g : Int} : xF (fBuild [(0, 1), (1, 1), (2, 1), (3, 1)] [.int .i64 0, .int .i64 0, .int .i64 0, .int .i64 0] [2]) [.int .i64 g] K = K (.agg #[.int .i64 0, .int .i64 0, .int .i64 g, .int .i64 0]) := nr rfl
theorem c_Fresh_round (hC : C.ok) (hN : N.ok) {σ0 : Mem} {J1 R1 : List Value → List (List Value) → Mem → Prop} {i : Int} (h : FrI N C σ0 i A σ)
  (hj : i = C.S → J1 [N.p] [C.l] σ) (hr : i < C.S → ∀ A' τ, FrI N C σ0 (i + 1) A' τ → R1 [N.p, .int .i64 C.S, .int .i64 (i + 1)] [C.l] τ) :
  w_layout_Fresh_l8 K J1 R1 [N.p, .int .i64 C.S, .int .i64 i] [C.l] σ := by
 have hS := hC.S
 have hT := hC.T
 have hl := len_bd hC
 simp only [w_layout_Fresh_l8, w_layout_Fresh_l8b, ruS, Nat.reduceAdd, reduceIte, Int.reduceLT, Int.reduceLE, Int.reduceEq, Int.reduceNeg, Int.reduceAdd, Int.reduceSub, locP_e, gLoad_s, subC]
 by_cases hi : i < C.S
 ·simp only [hi, ruS, Nat.reduceAdd, reduceIte, Int.reduceLT, Int.reduceLE, Int.reduceEq, Int.reduceNeg, Int.reduceAdd, Int.reduceSub]
  have hn : C.slot i + 1 < A.n := by rw [h.n]; unfold Cf.slot; unfold Cf.chunk at hl; have := hC.C; omega
  have hs0 : 0 ≤ C.slot i := by unfold Cf.slot; have := h.i0; omega
  have i0 := h.i0
  rw [c_Slot hC h.i0 (by omega)]
  rw [xBuildSlotG, c_PutSlot, h.isA.eq, c_mStore hN hs0 (by omega), c_Slot hC h.i0 (by omega)]
  simp only [xAdd]
  rw [IntWalk.i64_in (i + 1) (by omega), c_PutTop (by omega), IntWalk.i64_in (C.slot i + 1) (by unfold Cf.slot; omega), c_mStore hN (by omega) (by rw [store_n]; omega)]
  have ok1 := h.ok.store (a := C.slot i) (by omega) (putSlot_in 0 0 1 0)
  have ok2 := ok1.store (a := C.slot i + 1) (by omega) (putTop_in (i + 1) 0)
  have s1 := h.ok.s1 (by omega)
  have s2 := ok1.s1 (by omega)
  refine hr hi ((A.store (C.slot i) (putSlot 0 0 1 0)).store (C.slot i + 1) (putTop (i + 1) 0)) _ ⟨by omega, by omega, h.n, ?_, ?_, h.who, ?_, isA_put hN, h.ext.put h.fr, h.fr⟩
  ·funext a
   rw [store_w, store_w, h.w]
   unfold upd Cf.fr Cf.slot
   have := hC.C
   by_cases e1 : a = 6 + C.T + 2 * i + 1
   ·subst e1
    rw [if_pos rfl, if_pos (by omega), if_neg (by omega)]
    congr 1; omega
   ·rw [if_neg e1]
    by_cases e2 : a = 6 + C.T + 2 * i
    ·subst e2
     rw [if_pos rfl, if_pos (by omega), if_pos (by omega)]
    ·rw [if_neg e2]
     by_cases e3 : 6 + C.T + 2 * 0 ≤ a ∧ a < 6 + C.T + 2 * i
     ·rw [if_pos e3, if_pos (show 6 + C.T + 2 * 0 ≤ a ∧ a < 6 + C.T + 2 * (i + 1) by omega)]
     ·rw [if_neg e3, if_neg (show ¬ (6 + C.T + 2 * 0 ≤ a ∧ a < 6 + C.T + 2 * (i + 1)) by omega)]
  ·rw [store_s, s2, store_s, s1, h.s]; omega
  ·rw [show 2 * (i + 1) = 2 * i + 1 + 1 by omega]; exact ok2
 ·rw [if_neg hi]
  exact hj (by have := h.i1; omega)
structure Frsh (N : Nm) (C : Cf) (A : Ar) : Prop where
 ok : A.ok (2 * C.S + 2)
 n : A.n = C.len.toNat
 w : A.w = C.w0
 s : A.s = 2 * C.S + 2
 who : A.who = 0
 la : A.la = 1
theorem Ar.new_ok {n : Nat} : (Ar.new n).ok (2 * 0) := ⟨fun _ => ⟨Int.le_refl 0, (by decide : (0 : Int) < 18446744073709551616)⟩, ⟨Int.le_refl 0, Int.le_refl 0⟩, fun _ => ⟨Int.le_refl 0, Int.le_refl 0⟩⟩
theorem c_Fresh (hC : C.ok) (hk : ∀ N A τ, N.ok → Frsh N C A → isA N A τ → Ext σ τ → N.fr σ → K (.tuple #[N.p, .int .i64 0]) τ) : s_bd [C.v] K σ := by
 have hl := len_bd hC
 have hS := hC.S
 have hT := hC.T
 have hCC := hC.C
 have hch : C.chunk C.C = 6 + C.T + 2 * C.S + 3 * C.C := rfl
 have hok : C.okB = true := Cf.okB_iff.2 hC
 simp only [s_bd, w_bd, ruS, Nat.reduceAdd, reduceIte, Int.reduceLT, Int.reduceLE, Int.reduceEq, Int.reduceNeg, Int.reduceAdd, Int.reduceSub, locP_e, gBoxC, gLoad_s, subC, subC1, c_Check, hok, c_lLen hC]
 refine c_New (by omega) (by omega) fun N τ hN hA hE hf => ?_
 simp only [ruS, Nat.reduceAdd, reduceIte, Int.reduceLT, Int.reduceLE, Int.reduceEq, Int.reduceNeg, Int.reduceAdd, Int.reduceSub]
 refine xLoop_inv (fun k ts ls τ => ∃ i A, k = (C.S - i).toNat ∧ ts = [N.p, .int .i64 C.S, .int .i64 i] ∧ ls = [C.l] ∧ FrI N C σ i A τ) ?_ (n := (C.S - 0).toNat)
  ⟨0, _, rfl, rfl, rfl, ⟨by omega, by omega, rfl, ?_, rfl, rfl, Ar.new_ok, hA, hE, hf⟩⟩
 ·rintro k ts ls τ ⟨i, A, rfl, rfl, rfl, h⟩
  refine c_Fresh_round hC hN h (fun e => ?_) fun hi A' τ' h' => ⟨_, by have := h.i0; omega, i + 1, A', rfl, rfl, rfl, h'⟩
  subst e
  simp only [w_bd_j1, w_bd_j1b, ruS, Nat.reduceAdd, reduceIte, Int.reduceLT, Int.reduceLE, Int.reduceEq, Int.reduceNeg, Int.reduceAdd, Int.reduceSub, locP_e, gLoad_s, subC, subC1]
  have n2 : C.slot (C.S - 1) + 1 < A.n := by rw [h.n]; unfold Cf.slot; omega
  have hs0 : 0 ≤ C.slot (C.S - 1) := by unfold Cf.slot; omega
  rw [IntWalk.i64_in (C.S - 1) (by omega), c_Slot hC (by omega) (by omega)]
  simp only [xAdd]
  rw [IntWalk.i64_in (C.slot (C.S - 1) + 1) (by unfold Cf.slot; omega), c_PutTop (by omega), h.isA.eq, c_mStore hN (by omega) n2, c_lTop, c_PutTop (by omega), c_mStore hN (by omega) (by rw [store_n]; omega)]
  have ok1 := h.ok.store (a := C.slot (C.S - 1) + 1) (by omega) (putTop_in (-1) 0)
  have ok2 := ok1.store (a := 1) (by omega) (putTop_in 0 0)
  have s1 := h.ok.s1 (by omega)
  have s2 := ok1.s1 (by omega)
  refine hk N ((A.store (C.slot (C.S - 1) + 1) (putTop (-1) 0)).store 1 (putTop 0 0)) _ hN ⟨by rw [show 2 * C.S + 2 = 2 * C.S + 1 + 1 by omega]; exact ok2, h.n, ?_, ?_, h.who, rfl⟩ (isA_put hN) (h.ext.put h.fr) h.fr
  ·rw [store_w, store_w, h.w]; rfl
  ·rw [store_s, s2, store_s, s1, h.s]; omega
 ·funext a
  unfold Cf.fr
  rw [if_neg (by omega)]; rfl
theorem c_Arena (hC : C.ok) (hG : C.G = 100) (hP : C.P = 600) (hR : C.R = 3) (hk : ∀ N A τ, N.ok → Frsh N C A → isA N A τ → Ext σ τ → N.fr σ → K (.tuple #[N.env C 0, .bool true]) τ) :
  s_ap [.int .i64 C.T, .int .i64 C.S, .int .i64 C.C, .int .i64 C.W] K σ := by
 simp only [s_ap, w_ap, ruS, Nat.reduceAdd, reduceIte, Int.reduceLT, Int.reduceLE, Int.reduceEq, Int.reduceNeg, Int.reduceAdd, Int.reduceSub]
 have b1 : ∀ K : Value → Prop, xF (fBuild [(0, 1), (1, 1), (2, 1), (3, 1), (4, 1), (5, 1), (6, 1)] [.int .i64 0, .int .i64 0, .int .i64 0, .int .i64 0, .int .i64 0, .int .i64 0, .int .i64 0] [0, 1, 2, 3, 4, 5, 6])
   [.int .i64 C.T, .int .i64 C.S, .int .i64 C.C, .int .i64 C.W, .int .i64 100, .int .i64 600, .int .i64 3] K = K C.v := by
  intro K; unfold Cf.v; rw [hG, hP, hR]; exact nr rfl
 have b2 : ∀ K : List Value → Prop, xC (gStore 7 [locP 10, C.v] [.int .i64 0, .int .i64 0, .int .i64 0, .int .i64 0, .int .i64 0, .int .i64 0, .int .i64 0]) K = K C.l := fun K => nr rfl
 rw [b1, b2]
 simp only [locP_e, gLoad_s, subC, xOs]
 refine c_Fresh hC fun N A τ hN hF hA hE hf => ?_
 simp only [ruS, Nat.reduceAdd, reduceIte, Int.reduceLT, Int.reduceLE, Int.reduceEq, Int.reduceNeg, Int.reduceAdd, Int.reduceSub, locP_e, gLoad_s, subC]
 exact hk N A τ hN hF hA hE hf
theorem ruE : type_of% ((And.intro (And.intro (And.intro (And.intro @Nat.lt_irrefl @Nat.zero_lt_one) (And.intro @gBoxE (And.intro @gBoxC @subE))) (And.intro (And.intro @subEC (And.intro @subE0 @subE1)) (And.intro @subE2 (And.intro @subE3 @subE4)))) (And.intro (And.intro (And.intro @subE6 @subE7) (And.intro @subE8 (And.intro @subC @subC0))) (And.intro (And.intro @subC1 (And.intro @subC2 @subC3)) (And.intro @subC4 (And.intro @subC5 @subC6)))))) := (And.intro (And.intro (And.intro (And.intro @Nat.lt_irrefl @Nat.zero_lt_one) (And.intro @gBoxE (And.intro @gBoxC @subE))) (And.intro (And.intro @subEC (And.intro @subE0 @subE1)) (And.intro @subE2 (And.intro @subE3 @subE4)))) (And.intro (And.intro (And.intro @subE6 @subE7) (And.intro @subE8 (And.intro @subC @subC0))) (And.intro (And.intro @subC1 (And.intro @subC2 @subC3)) (And.intro @subC4 (And.intro @subC5 @subC6)))))
end Go.Fl
namespace Go.Fl
open Go
set_option linter.unusedVariables false
set_option linter.unusedSimpArgs false
variable {N : Nm} {A B : Ar} {σ : Mem} {K : Value → Mem → Prop} {C : Cf} {who : Int}
theorem notin {p : Nat} (h : p ∉ N.l) : p ≠ N.m ∧ p ≠ N.w ∧ p ≠ N.t := by simpa [Nm.l] using h
theorem putA_get {p : Nat} (h : p ∉ N.l) : (putA N A σ).get p = σ.get p := putA_ne (notin h).1 (notin h).2.1 (notin h).2.2
theorem putA_setP {p : Nat} {c : Blk} (h : p ∉ N.l) : (putA N A σ).set p c = putA N A (σ.set p c) := putA_set (notin h).1 (notin h).2.1 (notin h).2.2
theorem isA.obj {p : Nat} {c : Blk} (h : isA N A σ) (hp : σ.get p = some c) : σ = putA N A (σ.set p c) := by rw [Mem.set_self hp]; exact h.eq
section
variable {p o k sz : Nat} {pre L post : List Value} {ag : Bool}
theorem sub_app (hz : 0 < sz) (hk : k + sz ≤ L.length) : sub (pre ++ L ++ post) (pre.length + k) sz ag = sub L k sz ag := by
 have h1 : pre.length + k + sz ≤ (pre ++ L ++ post).length := by simp; omega
 simp only [sub, if_pos h1, if_pos hk]
 cases ag
 ·simp only [Bool.false_eq_true, if_false]
  rw [List.append_assoc, List.getElem?_append_right (by omega), Nat.add_sub_cancel_left, List.getElem?_append_left (by omega)]
 ·simp only [if_true]
  rw [List.append_assoc, List.drop_append, List.drop_of_length_le (by omega), List.nil_append, Nat.add_sub_cancel_left, List.drop_append_of_le_length (by omega), List.take_append_of_le_length (by simp; omega)]
theorem lay_app {vs : List Value} (hk : k + vs.length ≤ L.length) : lay (pre ++ L ++ post) (pre.length + k) vs = pre ++ lay L k vs ++ post := by
 have e : pre.length + k + vs.length = pre.length + (k + vs.length) := by omega
 simp only [lay, e]
 rw [List.append_assoc pre, List.take_append, List.take_of_length_le (by omega), Nat.add_sub_cancel_left, List.take_append_of_le_length (by omega),
  List.drop_append, List.drop_of_length_le (by omega), List.nil_append, Nat.add_sub_cancel_left, List.drop_append_of_le_length (by omega)]
 simp only [List.append_assoc]
theorem ldO (hd : p ∉ N.l) (hz : 0 < sz) (hk : k + sz ≤ L.length) : hLoad sz ag [.pointer (some ⟨p, pre.length + k, none⟩)] K (putA N A (σ.set p ⟨pre ++ L ++ post, true⟩)) =
  xO (sub L k sz ag) (fun v => K v (putA N A (σ.set p ⟨pre ++ L ++ post, true⟩))) := by
 rw [hLoad_eq ((putA_get hd).trans (Mem.get_set_same _ _ _)), sub_app hz hk]
theorem stO (hd : p ∉ N.l) {x : Value} {c : List Value} (hc : cellsOf x sz = some c) (hl : c.length = sz) (hk : k + sz ≤ L.length) (ho : c.all oneB = true) :
  hStore sz [.pointer (some ⟨p, pre.length + k, none⟩), x] K (putA N A (σ.set p ⟨pre ++ L ++ post, true⟩)) = K undef (putA N A (σ.set p ⟨pre ++ lay L k c ++ post, true⟩)) := by
 rw [hStore_eq ((putA_get hd).trans (Mem.get_set_same _ _ _)) hc (by simp; omega) ho, putA_setP hd, Mem.set_set, lay_app (by omega)]
theorem stOi (hd : p ∉ N.l) {kd : IntKind} {n : Int} (hk : k + 1 ≤ L.length) :
  hStore 1 [.pointer (some ⟨p, pre.length + k, none⟩), .int kd n] K (putA N A (σ.set p ⟨pre ++ L ++ post, true⟩)) = K undef (putA N A (σ.set p ⟨pre ++ lay L k [.int kd n] ++ post, true⟩)) := stO hd rfl rfl hk rfl
theorem stOb (hd : p ∉ N.l) {b : Bool} (hk : k + 1 ≤ L.length) :
  hStore 1 [.pointer (some ⟨p, pre.length + k, none⟩), .bool b] K (putA N A (σ.set p ⟨pre ++ L ++ post, true⟩)) = K undef (putA N A (σ.set p ⟨pre ++ lay L k [.bool b] ++ post, true⟩)) := stO hd rfl rfl hk rfl
theorem stOp (hd : p ∉ N.l) {b : Option Addr} (hk : k + 1 ≤ L.length) :
  hStore 1 [.pointer (some ⟨p, pre.length + k, none⟩), .pointer b] K (putA N A (σ.set p ⟨pre ++ L ++ post, true⟩)) = K undef (putA N A (σ.set p ⟨pre ++ lay L k [.pointer b] ++ post, true⟩)) := stO hd rfl rfl hk rfl
theorem stOa (hd : p ∉ N.l) {c : List Value} (hl : c.length = sz) (hk : k + sz ≤ L.length) (ho : c.all oneB = true) :
  hStore sz [.pointer (some ⟨p, pre.length + k, none⟩), .agg c.toArray] K (putA N A (σ.set p ⟨pre ++ L ++ post, true⟩)) = K undef (putA N A (σ.set p ⟨pre ++ lay L k c ++ post, true⟩)) :=
 stO hd (by subst hl; simp [cellsOf]) hl hk ho
theorem behind (hN : N.ok) (hd : p ∉ N.l) {c : Blk} {v : Value} (hk : ∀ τ, isA N A τ → τ.get p = some c → Keep (p :: N.l) σ τ → K v τ) : K v (putA N A (σ.set p c)) := by
 refine hk _ (isA_put hN) ((putA_get hd).trans (Mem.get_set_same _ _ _)) fun i b hi hn => ?_
 simp only [List.mem_cons, not_or] at hn
 rw [putA_get hn.2, Mem.get_set_ne _ _ hn.1]
 exact hi
end
structure Tk where
 pc : Int
 top : Int
 next : Int
 slot : Int
 ok : Bool
def Tk.l (t : Tk) : List Value := [.int .i64 t.pc, .int .u64 t.top, .int .i64 t.next, .int .i64 t.slot, .bool t.ok]
def Tk.new : Tk := ⟨0, 0, 0, 0, false⟩
def Tk.step (C : Cf) (who : Int) (A : Ar) (t : Tk) : Bool × Tk × Ar :=
 if t.pc = 0 then (decide (topS (A.w 1) < 0), ⟨1, A.w 1, t.next, topS (A.w 1), t.ok⟩, (A.by who).load 1)
 else if t.pc = 1 then (t.ok, ⟨2, t.top, topS (A.w (C.slot t.slot + 1)), t.slot, t.ok⟩, (A.by who).load (C.slot t.slot + 1))
 else (decide (A.w 1 = t.top), ⟨0, t.top, t.next, t.slot, decide (A.w 1 = t.top)⟩, (A.by who).cas 1 t.top (putTop t.next (topN t.top + 1)))
theorem c_Take_Step (hN : N.ok) (hC : C.ok) (hA : isA N A σ) {p : Nat} {pre post : List Value} {t : Tk} (hp : σ.get p = some ⟨pre ++ t.l ++ post, true⟩) (hd : p ∉ N.l)
  (hw : ∀ i, 0 ≤ A.w i ∧ A.w i < 18446744073709551616) (hn : C.len ≤ A.n) (h0 : 0 ≤ t.top ∧ t.top < 18446744073709551616) (h1 : t.pc = 1 → 0 ≤ t.slot ∧ t.slot < C.S) (h2 : 0 ≤ t.next + 1)
  (hk : ∀ τ, isA N (t.step C who A).2.2 τ → τ.get p = some ⟨pre ++ (t.step C who A).2.1.l ++ post, true⟩ → Keep (p :: N.l) σ τ → K (.bool (t.step C who A).1) τ) :
  s_b5 [.pointer (some ⟨p, pre.length, none⟩), N.env C who] K σ := by
 rw [hA.obj hp]
 have hl := len_bd hC
 have hT := hC.T
 have hS := hC.S
 have hCC := hC.C
 have hch : C.chunk C.C = 6 + C.T + 2 * C.S + 3 * C.C := rfl
 simp only [s_b5, w_b5, w_b5_j1, w_b5_j1b, Tk.l, ldO hd, c_lTop, ruS, ruL, ruE, Nat.reduceAdd, reduceIte, Int.reduceLT, Int.reduceLE, Int.reduceEq, Int.reduceNeg, Int.reduceAdd, Int.reduceSub, Nat.reduceLeDiff, Nat.reduceLT]
 by_cases c0 : t.pc = 0
 ·rw [if_pos c0, c_Load hN (by omega) (by omega)]
  simp only [stOi hd, ldO hd, ruS, ruL, ruE, Nat.reduceAdd, reduceIte, Int.reduceLT, Int.reduceLE, Int.reduceEq, Int.reduceNeg, Int.reduceAdd, Int.reduceSub, Nat.reduceLeDiff, Nat.reduceLT]
  rw [c_Top (hw 1).1 (hw 1).2]
  simp only [stOi hd, ldO hd, ruS, ruL, ruE, Nat.reduceAdd, reduceIte, Int.reduceLT, Int.reduceLE, Int.reduceEq, Int.reduceNeg, Int.reduceAdd, Int.reduceSub, Nat.reduceLeDiff, Nat.reduceLT]
  simp only [Tk.step, if_pos c0] at hk
  exact behind hN hd hk
 ·by_cases c1 : t.pc = 1
  ·have := h1 c1
   have ha : 0 ≤ C.slot t.slot + 1 ∧ C.slot t.slot + 1 < A.n := by unfold Cf.slot; unfold Cf.chunk at hl; have := hC.C; omega
   rw [if_neg c0, if_pos c1, c_Slot hC (by omega) (by omega)]
   simp only [xAdd]
   rw [IntWalk.i64_in (C.slot t.slot + 1) (by unfold Cf.slot; omega), c_Load hN ha.1 ha.2, c_Top (hw _).1 (hw _).2]
   simp only [stOi hd, ldO hd, ruS, ruL, ruE, Nat.reduceAdd, reduceIte, Int.reduceLT, Int.reduceLE, Int.reduceEq, Int.reduceNeg, Int.reduceAdd, Int.reduceSub, Nat.reduceLeDiff, Nat.reduceLT]
   simp only [Tk.step, if_neg c0, if_pos c1] at hk
   exact behind hN hd hk
  ·rw [if_neg c0, if_neg c1, c_Top h0.1 h0.2]
   simp only [stOi hd, ldO hd, c_lTop, ruS, ruL, ruE, Nat.reduceAdd, reduceIte, Int.reduceLT, Int.reduceLE, Int.reduceEq, Int.reduceNeg, Int.reduceAdd, Int.reduceSub, Nat.reduceLeDiff, Nat.reduceLT]
   have hN2 : 0 ≤ topN t.top ∧ topN t.top < 68719476736 := by unfold topN; omega
   rw [IntWalk.i64_in (topN t.top + 1) (by omega), c_PutTop (by omega), c_Cas hN (by omega) (by omega)]
   simp only [stOb hd, ldO hd, ruS, ruL, ruE, Nat.reduceAdd, reduceIte, Int.reduceLT, Int.reduceLE, Int.reduceEq, Int.reduceNeg, Int.reduceAdd, Int.reduceSub, Nat.reduceLeDiff, Nat.reduceLT]
   simp only [Tk.step, if_neg c0, if_neg c1] at hk
   exact behind hN hd hk
theorem c_Take_Slot (hA : isA N A σ) {p : Nat} {pre post : List Value} {t : Tk} (hp : σ.get p = some ⟨pre ++ t.l ++ post, true⟩) (hd : p ∉ N.l)
  (hk : K (.tuple #[.int .i64 (if t.ok = true then t.slot else 0), .bool t.ok]) σ) : s_b4 [.pointer (some ⟨p, pre.length, none⟩)] K σ := by
 have e := hA.obj hp
 generalize hq : σ = υ at *
 rw [e] at hk ⊢
 simp only [s_b4, w_b4, w_b4_j1, w_b4_j1b, Tk.l, ldO hd, ruS, ruL, ruE, Nat.reduceAdd, reduceIte, Int.reduceLT, Int.reduceLE, Int.reduceEq, Int.reduceNeg, Int.reduceAdd, Int.reduceSub, Nat.reduceLeDiff, Nat.reduceLT] at hk ⊢
 cases h : t.ok <;> simp only [h, xIfB, ldO hd, ruS, ruL, ruE, Nat.reduceAdd, reduceIte, Int.reduceLT, Int.reduceLE, Int.reduceEq, Int.reduceNeg, Int.reduceAdd, Int.reduceSub, Nat.reduceLeDiff, Nat.reduceLT] at hk ⊢ <;> exact hk
structure Gv where
 pc : Int
 slot : Int
 top : Int
def Gv.l (g : Gv) : List Value := [.int .i64 g.pc, .int .i64 g.slot, .int .u64 g.top]
def Gv.step (C : Cf) (who : Int) (A : Ar) (g : Gv) : Bool × Gv × Ar :=
 if g.pc = 0 then (false, ⟨1, g.slot, A.w 1⟩, (A.by who).load 1)
 else if g.pc = 1 then (false, ⟨2, g.slot, g.top⟩, (A.by who).store (C.slot g.slot + 1) (putTop (topS g.top) 0))
 else (decide (A.w 1 = g.top), ⟨0, g.slot, g.top⟩, (A.by who).cas 1 g.top (putTop g.slot (topN g.top + 1)))
theorem c_Give_Step (hN : N.ok) (hC : C.ok) (hA : isA N A σ) {p : Nat} {pre post : List Value} {t : Gv} (hp : σ.get p = some ⟨pre ++ t.l ++ post, true⟩) (hd : p ∉ N.l)
  (hw : ∀ i, 0 ≤ A.w i ∧ A.w i < 18446744073709551616) (hn : C.len ≤ A.n) (h0 : 0 ≤ t.top ∧ t.top < 18446744073709551616) (h1 : 0 ≤ t.slot ∧ t.slot < C.S)
  (hk : ∀ τ, isA N (t.step C who A).2.2 τ → τ.get p = some ⟨pre ++ (t.step C who A).2.1.l ++ post, true⟩ → Keep (p :: N.l) σ τ → K (.bool (t.step C who A).1) τ) :
  s_b2 [.pointer (some ⟨p, pre.length, none⟩), N.env C who] K σ := by
 rw [hA.obj hp]
 have hl := len_bd hC
 have hT := hC.T
 have hS := hC.S
 have hCC := hC.C
 have hch : C.chunk C.C = 6 + C.T + 2 * C.S + 3 * C.C := rfl
 simp only [s_b2, w_b2, w_b2_j1, w_b2_j1b, Gv.l, ldO hd, c_lTop, ruS, ruL, ruE, Nat.reduceAdd, reduceIte, Int.reduceLT, Int.reduceLE, Int.reduceEq, Int.reduceNeg, Int.reduceAdd, Int.reduceSub, Nat.reduceLeDiff, Nat.reduceLT]
 rw [c_Top h0.1 h0.2]
 simp only [ldO hd, c_lTop, ruS, ruL, ruE, Nat.reduceAdd, reduceIte, Int.reduceLT, Int.reduceLE, Int.reduceEq, Int.reduceNeg, Int.reduceAdd, Int.reduceSub, Nat.reduceLeDiff, Nat.reduceLT]
 by_cases c0 : t.pc = 0
 ·rw [if_pos c0, c_Load hN (by omega) (by omega)]
  simp only [stOi hd, ldO hd, ruS, ruL, ruE, Nat.reduceAdd, reduceIte, Int.reduceLT, Int.reduceLE, Int.reduceEq, Int.reduceNeg, Int.reduceAdd, Int.reduceSub, Nat.reduceLeDiff, Nat.reduceLT]
  simp only [Gv.step, if_pos c0] at hk
  exact behind hN hd hk
 ·by_cases c1 : t.pc = 1
  ·have ha : 0 ≤ C.slot t.slot + 1 ∧ C.slot t.slot + 1 < A.n := by unfold Cf.slot; omega
   have hN1 : -1 ≤ topS t.top := by unfold topS; omega
   rw [if_neg c0, if_pos c1, c_Slot hC (by omega) (by omega)]
   simp only [xAdd]
   rw [IntWalk.i64_in (C.slot t.slot + 1) (by unfold Cf.slot; omega), c_PutTop (by omega), c_Store hN ha.1 ha.2]
   simp only [stOi hd, ldO hd, ruS, ruL, ruE, Nat.reduceAdd, reduceIte, Int.reduceLT, Int.reduceLE, Int.reduceEq, Int.reduceNeg, Int.reduceAdd, Int.reduceSub, Nat.reduceLeDiff, Nat.reduceLT]
   simp only [Gv.step, if_neg c0, if_pos c1] at hk
   exact behind hN hd hk
  ·rw [if_neg c0, if_neg c1]
   simp only [stOi hd, ldO hd, c_lTop, ruS, ruL, ruE, Nat.reduceAdd, reduceIte, Int.reduceLT, Int.reduceLE, Int.reduceEq, Int.reduceNeg, Int.reduceAdd, Int.reduceSub, Nat.reduceLeDiff, Nat.reduceLT]
   have hN2 : 0 ≤ topN t.top ∧ topN t.top < 68719476736 := by unfold topN; omega
   rw [IntWalk.i64_in (topN t.top + 1) (by omega), c_PutTop (by omega), c_Cas hN (by omega) (by omega)]
   simp only [Gv.step, if_neg c0, if_neg c1] at hk
   exact behind hN hd hk
theorem hBox_i {cs : List Value} {sz : Nat} {K : Value → Mem → Prop} {σ : Mem} (h : cs.length = sz) (hk : ∀ id τ, σ.get id = none → τ.get id = some ⟨cs, true⟩ → Ext σ τ → K (.pointer (some ⟨id, 0, none⟩)) τ) :
  hBox sz [.agg cs.toArray] K σ := by
 rw [hBox_a h]
 exact fun id hid => hk id _ hid (Mem.get_set_same _ _ _) (Ext.fresh hid)
theorem Keep.fresh {L : List Nat} {τ υ : Mem} {id : Nat} (h : σ.get id = none) (e : Ext σ τ) (k : Keep (id :: L) τ υ) : Keep L σ υ := by
 intro i b hi hn
 refine k i b (e i b hi) ?_
 simp only [List.mem_cons, not_or]
 exact ⟨fun e' => (by rw [e', h] at hi; cases hi), hn⟩
theorem isA.new (h : isA N A σ) {id : Nat} (hid : σ.get id = none) : id ∉ N.l := by
 have := h.fresh hid
 simpa [Nm.l] using this
theorem c_NewGive {s : Int} (hk : ∀ id τ, σ.get id = none → τ.get id = some ⟨(Gv.mk 0 s 0).l, true⟩ → Ext σ τ → K (.pointer (some ⟨id, 0, none⟩)) τ) : s_b3 [.int .i64 s] K σ := by
 have b : ∀ K : Value → Prop, xF (fBuild [(0, 1), (1, 1), (2, 1)] [.int .i64 0, .int .i64 0, .int .u64 0] [1]) [.int .i64 s] K = K (.agg #[.int .i64 0, .int .i64 s, .int .u64 0]) := fun K => nr rfl
 simp only [s_b3, w_b3, b, ruS, Nat.reduceAdd, reduceIte, Int.reduceLT, Int.reduceLE, Int.reduceEq, Int.reduceNeg, Int.reduceAdd, Int.reduceSub]
 exact hBox_i (cs := [_, _, _]) rfl hk
theorem newB_i {c : List Value} {v : Nat → Value} {K : Value → Mem → Prop} {σ : Mem} (h : ∀ id τ, σ.get id = none → τ.get id = some ⟨c, true⟩ → Ext σ τ → K (v id) τ) : newB c v K σ :=
 fun id hid => h id _ hid (Mem.get_set_same _ _ _) (Ext.fresh hid)
theorem hBuildS_i {es len : Nat} {z : List Value} {idx : List Nat} {args : List Value} {K : Value → Mem → Prop} {σ : Mem} (c : List Value) (hc : fillL (fun i => some (i * es, es)) (List.replicate len z).flatten idx args = some c)
  (h : ∀ id τ, σ.get id = none → τ.get id = some ⟨c, true⟩ → Ext σ τ → K (.slice (some ⟨id, 0, none⟩) len es) τ) : hBuildS es len z idx args K σ := by
 simp only [hBuildS, hc]
 exact newB_i h
theorem xLoop_i {F : (List Value → List (List Value) → Mem → Prop) → List Value → List (List Value) → Mem → Prop} (enc : Int → List Value) (ls : List (List Value)) (m : Int) (I : Int → Mem → Prop)
  (hr : ∀ i σ, I i σ → ∀ R : List Value → List (List Value) → Mem → Prop, (∀ τ, i < m → I (i + 1) τ → R (enc (i + 1)) ls τ) → F R (enc i) ls σ) {i : Int} {σ : Mem} (h0 : I i σ) : xLoop F (enc i) ls σ := by
 refine xLoop_inv (fun k ts l τ => ∃ i, k = (m - i).toNat ∧ ts = enc i ∧ l = ls ∧ I i τ) ?_ (n := (m - i).toNat) ⟨i, rfl, rfl, rfl, h0⟩
 rintro k ts l τ ⟨i, rfl, rfl, rfl, h⟩
 exact hr i τ h _ fun υ hi h' => ⟨_, by omega, i + 1, rfl, rfl, rfl, h'⟩
theorem xLoop_r {F : (List Value → List (List Value) → Mem → Prop) → List Value → List (List Value) → Mem → Prop} (I : Nat → List Value → List (List Value) → Mem → Prop)
  (hr : ∀ n ts ls σ, I n ts ls σ → ∀ R : List Value → List (List Value) → Mem → Prop, (∀ m ts' ls' σ', m < n → I m ts' ls' σ' → R ts' ls' σ') → F R ts ls σ)
  {n : Nat} {ts : List Value} {ls : List (List Value)} {σ : Mem} (h0 : I n ts ls σ) : xLoop F ts ls σ :=
 xLoop_inv I (fun n ts ls σ h => hr n ts ls σ h _ fun m ts' ls' σ' hm h' => ⟨m, hm, h'⟩) h0
theorem ldCells {k : IntKind} {n q : Nat} {g : Int → Int} {i : Int} {b : Bool} (h : σ.get q = some ⟨cells k n g, b⟩) (h0 : 0 ≤ i) (h1 : i < n) :
  hLoad 1 false [.pointer (some ⟨q, i.toNat * 1, none⟩)] K σ = K (.int k (g i)) σ := by
 have := cells_sub k g h0 h1
 rw [Nat.zero_add] at this
 rw [hLoad_eq h, this, xOs]
theorem xAndI {K : Value → Prop} {Q : EqK} {k : Nat} {a : Int} (hk : k ≤ 62) : xF (fBin .and Q) [.int .i64 a, .int .i64 (2 ^ k - 1)] K = K (.int .i64 (a % 2 ^ k)) := by
 have e : ((2 : Int) ^ k - 1) = ((2 ^ k - 1 : Nat) : Int) := by
  push_cast [Nat.one_le_two_pow]
  rfl
 have hp : 0 < 2 ^ k := Nat.two_pow_pos k
 have e2 : ((2 ^ k : Nat) : Int) = 2 ^ k := by push_cast; rfl
 have hb : 2 ^ k ≤ 2 ^ 62 := Nat.pow_le_pow_right (by decide) hk
 have hd : (2 ^ k : Nat) ∣ 2 ^ 64 := Nat.pow_dvd_pow 2 (by omega)
 have q : ((BitVec.ofInt 64 a &&& BitVec.ofInt 64 ((2 ^ k - 1 : Nat) : Int)).toNat : Int) = a % 2 ^ k := by
  rw [BitVec.toNat_and, BitVec.toNat_ofInt, BitVec.toNat_ofInt]
  have h4 : (((2 ^ k - 1 : Nat) : Int) % ((2 ^ 64 : Nat) : Int)).toNat = 2 ^ k - 1 := by omega
  rw [h4, Nat.and_two_pow_sub_one_eq_mod, Int.natCast_emod, Int.toNat_of_nonneg (by omega), Int.emod_emod_of_dvd a (Int.natCast_dvd_natCast.2 hd), e2]
 simp only [xF, fBin, isSh, binI, Bool.false_eq_true, if_false, if_true]
 show K (.int .i64 (IntKind.i64.wrap ((BitVec.ofInt 64 a &&& BitVec.ofInt 64 (2 ^ k - 1)).toNat : Int))) = _
 rw [e, q]
 have h1 : 0 ≤ a % 2 ^ k := by rw [← e2]; exact Int.emod_nonneg _ (by omega)
 have h2 : a % 2 ^ k < 2 ^ k := by rw [← e2]; exact Int.emod_lt_of_pos _ (by omega)
 have h3 : (2 : Int) ^ k ≤ 4611686018427387904 := by rw [← e2]; omega
 rw [IntWalk.i64_in _ (by omega)]
theorem andI7 {K : Value → Prop} {Q : EqK} {a : Int} : xF (fBin .and Q) [.int .i64 a, .int .i64 7] K = K (.int .i64 (a % 8)) := by simpa using xAndI (K := K) (Q := Q) (k := 3) (a := a) (by decide)
theorem andI15 {K : Value → Prop} {Q : EqK} {a : Int} : xF (fBin .and Q) [.int .i64 a, .int .i64 15] K = K (.int .i64 (a % 16)) := by simpa using xAndI (K := K) (Q := Q) (k := 4) (a := a) (by decide)
theorem gStoreE {k : Nat} : gStore 9 [.pointer (some ⟨k, 0, some 0⟩), N.env C who] [.int .i64 0, .int .i64 0, .int .i64 0, .int .i64 0, .int .i64 0, .int .i64 0, .int .i64 0, .pointer none, .int .i64 0] = some (N.el C who) := nr rfl
theorem c_PeekA (hN : N.ok) (hA : isA N A σ) {a : Int} (h0 : 0 ≤ a) (h1 : a < A.n) : s_bo [N.p, .int .i64 a] K σ = K (.int .u64 (A.w a)) σ := by
 have := c_mPeek (N := N) (A := A) (σ := σ) (K := K) hN h0 h1
 rwa [← hA.eq] at this
def cA (T S Ch W : Int) : Cf := ⟨T, S, Ch, W, 100, 600, 3⟩
theorem cA_ok {T S Ch W : Int} (h1 : 1 ≤ T ∧ T ≤ 8) (h2 : 1 ≤ S ∧ S ≤ 65536) (h3 : 1 ≤ Ch ∧ Ch ≤ 64) (h4 : 17 ≤ W ∧ W ≤ 256) : (cA T S Ch W).ok :=
 ⟨h1, h2, h3, h4, ⟨by show (1 : Int) ≤ 100; decide, by show (100 : Int) ≤ 65535; decide⟩, ⟨by show (0 : Int) ≤ 600; decide, by show (600 : Int) ≤ 1000; decide⟩, ⟨by show (1 : Int) ≤ 3; decide, by show (3 : Int) ≤ 16; decide⟩⟩
theorem Keep.get {L : List Nat} {τ : Mem} {i : Nat} {b : Blk} (k : Keep L σ τ) (h : σ.get i = some b) (hn : i ∉ L) : τ.get i = some b := k i b h hn
structure Aft (A A' : Ar) (k : Int) (w : Int → Int) : Prop where
 n : A'.n = A.n
 w : A'.w = w
 s : A'.s = A.s + k
 t : ∀ i, A'.t i = A.t i ∨ A.s < A'.t i ∧ A'.t i ≤ A'.s
theorem Aft.ok {A' : Ar} {k b : Int} {w : Int → Int} (h : Aft A A' k w) (hk : 0 ≤ k) (ho : A.ok b) (hw : ∀ i, 0 ≤ w i ∧ w i < 18446744073709551616) : A'.ok (b + k) := by
 refine ⟨fun i => by rw [h.w]; exact hw i, ?_, fun i => ?_⟩
 ·have := ho.s; have := h.s; omega
 ·have := ho.s; have := h.s; have := ho.t i
  rcases h.t i with e | e <;> omega
theorem Aft.trans {A' A'' : Ar} {k k' : Int} {w w' : Int → Int} (h : Aft A A' k w) (h' : Aft A' A'' k' w') (hk : 0 ≤ k) (hk' : 0 ≤ k') : Aft A A'' (k + k') w' := by
 refine ⟨h'.n.trans h.n, h'.w, by rw [h'.s, h.s]; omega, fun i => ?_⟩
 have := h.s; have := h'.s
 rcases h'.t i with e | e
 ·rw [e]
  rcases h.t i with e | e <;> omega
 ·omega
theorem aft_load {b a : Int} (h : A.ok b) (hb : b < 9223372036854775807) : Aft A ((A.by who).load a) 1 A.w :=
 ⟨rfl, rfl, by rw [load_s, by_s, h.s1 hb], fun i => .inl rfl⟩
theorem aft_store {b a v : Int} (h : A.ok b) (hb : b < 9223372036854775807) : Aft A ((A.by who).store a v) 1 (upd A.w a v) := by
 refine ⟨rfl, rfl, by rw [store_s, by_s, h.s1 hb], fun i => ?_⟩
 rw [store_t, by_s, h.s1 hb, store_s, by_s, h.s1 hb]
 split
 ·unfold upd; split
  ·right; omega
  ·left; rfl
 ·left; rfl
theorem aft_cas {b a o v : Int} (h : A.ok b) (hb : b < 9223372036854775807) : Aft A ((A.by who).cas a o v) 1 (if A.w a = o then upd A.w a v else A.w) := by
 by_cases hc : A.w a = o
 ·rw [if_pos hc, cas_yes (by exact hc)]; exact aft_store h hb
 ·rw [if_neg hc, cas_no (by exact hc)]; exact aft_load h hb
end Go.Fl
namespace Go.Fl
open Go
set_option linter.unusedVariables false
set_option linter.unusedSimpArgs false
variable {N : Nm} {A B : Ar} {σ : Mem} {K : Value → Mem → Prop} {C : Cf} {who : Int}
def ArgI (k : IntKind) (σ : Mem) (s : Value) (n : Nat) (g : Int → Int) : Prop := ∃ a c, s = .slice a n c ∧ (0 < n → ∃ b rw, a = some ⟨b, 0, none⟩ ∧ σ.get b = some ⟨cells k n g, rw⟩)
theorem Sl.argI {k : IntKind} {s : Value} {n : Nat} {cs : List Value} (h : Sl σ 1 n cs s) (hf : FlatL (List.replicate n [some k]).flatten cs) : ∃ g, ArgI k σ s n g ∧ ∀ i, (Lit.int k (g i)).wf = true := by
 obtain ⟨g, rfl, hw⟩ := hf.ints
 refine ⟨g, ?_, hw⟩
 generalize hc : cells k n g = cs at h
 cases h with
 | nil => exact ⟨none, 0, rfl, fun h => absurd h (Nat.lt_irrefl 0)⟩
 | mk hl hg =>
  rename_i b
  refine ⟨some ⟨b, 0, none⟩, 1, rfl, fun h => ?_⟩
  rcases hg with hg | ⟨rw, hg⟩
  ·omega
  ·exact ⟨b, rw, rfl, by rw [hg, hc]⟩
theorem ArgI.keep {kd : IntKind} {s : Value} {n : Nat} {g : Int → Int} {τ : Mem} (h : ArgI kd σ s n g) (k : Ext σ τ) : ArgI kd τ s n g := by
 obtain ⟨a, c, rfl, h⟩ := h
 refine ⟨a, c, rfl, fun hn => ?_⟩
 obtain ⟨b, rw, e, h⟩ := h hn
 exact ⟨b, rw, e, k _ _ h⟩
theorem ArgI.len {k : IntKind} {s : Value} {n : Nat} {g : Int → Int} (h : ArgI k σ s n g) {K : Value → Prop} : xF fLen [s] K = K (.int .i64 n) := by
 obtain ⟨a, c, rfl, _⟩ := h; exact xLen
theorem ArgI.ix {k' : IntKind} {s : Value} {n : Nat} {g : Int → Int} (h : ArgI k' σ s n g) {i : Int} (h0 : 0 ≤ i) (h1 : i < n) {kd : IntKind} :
  (xF (fIxS 1) [s, .int kd i] fun v => hLoad 1 false [v] K σ) = K (.int k' (g i)) σ := by
 obtain ⟨a, c, rfl, h⟩ := h
 obtain ⟨b, rw, rfl, h'⟩ := h (by omega)
 rw [xIxS h0 h1]
 simp only [Nat.zero_add]
 exact ldCells h' h0 h1
theorem Ext.keep' {σ0 τ : Mem} {L : List Nat} (h : Ext σ0 σ) (k : Keep L σ τ) (hL : ∀ i ∈ L, σ0.get i = none) : Ext σ0 τ := by
 intro i b hi
 refine k i b (h i b hi) fun hm => ?_
 rw [hL i hm] at hi; cases hi
theorem Ext.none {τ : Mem} (h : Ext σ τ) {i : Nat} (hi : τ.get i = none) : σ.get i = none := by
 cases e : σ.get i with
 | none => rfl
 | some b => rw [h i b e] at hi; cases hi
theorem Nm.fr.all (h : N.fr σ) : ∀ i ∈ N.l, σ.get i = none := by
 intro i hi
 simp only [Nm.l, List.mem_cons, List.not_mem_nil, or_false] at hi
 rcases hi with rfl | rfl | rfl
 ·exact h.m
 ·exact h.w
 ·exact h.t
theorem FlatL.split : ∀ {ks ls : List (Option IntKind)} {cs : List Value}, FlatL (ks ++ ls) cs → FlatL ks (cs.take ks.length) ∧ FlatL ls (cs.drop ks.length)
 | [], ls, cs, h => ⟨.nil, h⟩
 | k :: ks, ls, cs, h => by
  cases h with
  | cons h1 h2 =>
   obtain ⟨a, b⟩ := FlatL.split h2
   exact ⟨.cons h1 a, b⟩
theorem tmodN (a : Int) {n : Int} (hn : 0 < n) : -n < a.tmod n ∧ a.tmod n < n := by
 rcases Int.le_total 0 a with h | h
 ·rw [Int.tmod_eq_emod_of_nonneg h]
  have := Int.emod_nonneg a (show n ≠ 0 by omega)
  have := Int.emod_lt_of_pos a hn
  omega
 ·obtain ⟨b, rfl⟩ : ∃ b, a = -b := ⟨-a, by omega⟩
  rw [Int.neg_tmod, Int.tmod_eq_emod_of_nonneg (by omega)]
  have := Int.emod_nonneg b (show n ≠ 0 by omega)
  have := Int.emod_lt_of_pos b hn
  omega
theorem pickN (a : Int) {n : Int} (hn : 0 < n) (h1 : n < 1000000000000) : IntKind.i64.wrap (a.tmod n + n) = a.tmod n + n ∧ 0 ≤ (a.tmod n + n).tmod n ∧ (a.tmod n + n).tmod n < n := by
 have := tmodN a hn
 refine ⟨IntWalk.i64_in _ (by omega), ?_⟩
 rw [Int.tmod_eq_emod_of_nonneg (by omega)]
 exact ⟨Int.emod_nonneg _ (by omega), Int.emod_lt_of_pos _ hn⟩
section
variable {b o : Nat} {pre L post : List Value} {rw : Bool}
end
end Go.Fl
namespace Go.Fl
open Go
set_option linter.unusedVariables false
set_option linter.unusedSimpArgs false
variable {N : Nm} {A B : Ar} {σ : Mem} {K : Value → Mem → Prop} {C : Cf} {who : Int}
theorem Tk.step0 {a b c : Int} {d : Bool} : (Tk.mk 0 a b c d).step C who A = (decide (topS (A.w 1) < 0), ⟨1, A.w 1, b, topS (A.w 1), d⟩, (A.by who).load 1) := nr rfl
theorem Tk.step1 {a b c : Int} {d : Bool} : (Tk.mk 1 a b c d).step C who A = (d, ⟨2, a, topS (A.w (C.slot c + 1)), c, d⟩, (A.by who).load (C.slot c + 1)) := nr rfl
theorem Tk.step2 {a b c : Int} {d : Bool} : (Tk.mk 2 a b c d).step C who A = (decide (A.w 1 = a), ⟨0, a, b, c, decide (A.w 1 = a)⟩, (A.by who).cas 1 a (putTop b (topN a + 1))) := nr rfl
theorem topS_ge (w : Int) (h : 0 ≤ w) : -1 ≤ topS w := by unfold topS; omega
def tookW (C : Cf) (w : Int → Int) : Int → Int := upd w 1 (putTop (topS (w (C.slot (topS (w 1)) + 1))) (topN (w 1) + 1))
theorem Gv.step0 {a b : Int} : (Gv.mk 0 a b).step C who A = (false, ⟨1, a, A.w 1⟩, (A.by who).load 1) := nr rfl
theorem Gv.step1 {a b : Int} : (Gv.mk 1 a b).step C who A = (false, ⟨2, a, b⟩, (A.by who).store (C.slot a + 1) (putTop (topS b) 0)) := nr rfl
theorem Gv.step2 {a b : Int} : (Gv.mk 2 a b).step C who A = (decide (A.w 1 = b), ⟨0, a, b⟩, (A.by who).cas 1 b (putTop a (topN b + 1))) := nr rfl
def Chn (C : Cf) (w : Int → Int) : Int → List Int → Prop
 | f, [] => f = -1
 | f, s :: l => f = s ∧ 0 ≤ s ∧ s < C.S ∧ Chn C w (topS (w (C.slot s + 1))) l
structure Fre (C : Cf) (w : Int → Int) (l : List Int) : Prop where
 c : Chn C w (topS (w 1)) l
 nd : l.Nodup
theorem topS_put {s c : Int} (h0 : -1 ≤ s) (h1 : s ≤ 65535) : topS (putTop s c) = s := by unfold topS putTop cl; omega
theorem topN_put {s c : Int} (h0 : 0 ≤ c) (h1 : c ≤ 68719476735) : topN (putTop s c) = c := by unfold topN putTop cl; omega
theorem Chn.mem {w : Int → Int} : ∀ {l : List Int} {f : Int}, Chn C w f l → ∀ s ∈ l, 0 ≤ s ∧ s < C.S
 | [], _, _, s, h => by cases h
 | x :: l, f, hc, s, h => by
  rcases List.mem_cons.1 h with rfl | h
  ·exact ⟨hc.2.1, hc.2.2.1⟩
  ·exact Chn.mem hc.2.2.2 s h
theorem Chn.congr {w w' : Int → Int} : ∀ {l : List Int} {f : Int}, Chn C w f l → (∀ s ∈ l, topS (w' (C.slot s + 1)) = topS (w (C.slot s + 1))) → Chn C w' f l
 | [], _, h, _ => h
 | x :: l, f, hc, h => ⟨hc.1, hc.2.1, hc.2.2.1, by rw [h x (by simp)]; exact Chn.congr hc.2.2.2 fun s hs => h s (by simp [hs])⟩
theorem Chn.first {w : Int → Int} {l : List Int} {f : Int} (h : Chn C w f l) : -1 ≤ f ∧ f < C.S ∨ C.S < 0 := by
 cases l with
 | nil => unfold Chn at h; omega
 | cons x l => have := h.1; have := h.2.1; have := h.2.2.1; omega
theorem slot_inj (C : Cf) {s t : Int} (h : C.slot s + 1 = C.slot t + 1) : s = t := by unfold Cf.slot at h; omega
theorem Fre.took (hC : C.ok) {w : Int → Int} {s : Int} {l : List Int} (h : Fre C w (s :: l)) : Fre C (tookW C w) l ∧ topS (w 1) = s := by
 have hT := hC.T
 have hS := hC.S
 have h1 := h.c.1
 have h2 := h.c.2.2.2
 refine ⟨⟨?_, (List.nodup_cons.1 h.nd).2⟩, h1⟩
 have hf := h2.first
 have e : topS (tookW C w 1) = topS (w (C.slot s + 1)) := by
  unfold tookW; rw [upd_same, h1, topS_put (by omega) (by omega)]
 rw [e]
 refine h2.congr fun t ht => ?_
 unfold tookW
 rw [upd_ne]
 have := h2.mem t ht
 unfold Cf.slot; omega
theorem topN_took {w : Int → Int} (h : 0 ≤ topN (w 1)) (h1 : topN (w 1) < 1000000) : topN (tookW C w 1) = topN (w 1) + 1 := by
 unfold tookW; rw [upd_same, topN_put (by omega) (by omega)]
def upL (i : Int) : Nat → List Int
 | 0 => []
 | n + 1 => i :: upL (i + 1) n
theorem upL_len : ∀ {n : Nat} {i : Int}, (upL i n).length = n
 | 0, _ => rfl
 | n + 1, i => by simp [upL, upL_len]
theorem upL_mem : ∀ {n : Nat} {i s : Int}, s ∈ upL i n ↔ i ≤ s ∧ s < i + n
 | 0, i, s => by simp [upL]
 | n + 1, i, s => by
  simp only [upL, List.mem_cons, upL_mem (n := n)]; omega
theorem upL_nodup : ∀ {n : Nat} {i : Int}, (upL i n).Nodup
 | 0, i => by simp [upL]
 | n + 1, i => by
  refine List.nodup_cons.2 ⟨fun h => ?_, upL_nodup⟩
  have := (upL_mem (n := n)).1 h
  omega
theorem w0_link (hC : C.ok) {s : Int} (h0 : 0 ≤ s) (h1 : s < C.S) : topS (C.w0 (C.slot s + 1)) = if s = C.S - 1 then -1 else s + 1 := by
 have hT := hC.T
 have hS := hC.S
 unfold Cf.w0
 rw [if_neg (by unfold Cf.slot; omega)]
 by_cases e : s = C.S - 1
 ·rw [if_pos (by rw [e]), if_pos e, topS_put (by omega) (by omega)]
 ·rw [if_neg (by unfold Cf.slot; omega), if_neg e]
  unfold Cf.fr Cf.slot
  rw [if_pos (by omega), if_neg (by omega), topS_put (by omega) (by omega)]
  omega
theorem fre0 (hC : C.ok) : Fre C C.w0 (upL 0 C.S.toNat) := by
 have hS := hC.S
 refine ⟨?_, upL_nodup⟩
 have e : topS (C.w0 1) = 0 := by unfold Cf.w0; rw [if_pos rfl, topS_put (by omega) (by omega)]
 rw [e]
 have key : ∀ (n : Nat) (i : Int), 0 ≤ i → i + n = C.S → Chn C C.w0 (if i = C.S then -1 else i) (upL i n) := by
  intro n
  induction n with
  | zero => intro i _ h; rw [if_pos (by omega)]; rfl
  | succ n ih =>
   intro i h0 h
   rw [if_neg (by omega)]
   refine ⟨rfl, h0, by omega, ?_⟩
   rw [w0_link hC h0 (by omega)]
   have := ih (i + 1) (by omega) (by omega)
   by_cases q : i = C.S - 1
   ·rw [if_pos (by omega)] at this; rw [if_pos q]; exact this
   ·rw [if_neg (by omega)] at this; rw [if_neg q]; exact this
 have := key C.S.toNat 0 (by omega) (by omega)
 rwa [if_neg (by omega)] at this
end Go.Fl
namespace Go.Fl
open Go
set_option linter.unusedVariables false
set_option linter.unusedSimpArgs false
variable {N : Nm} {A B : Ar} {σ : Mem} {K : Value → Mem → Prop} {C : Cf} {who : Int}
inductive Ps where
 | tk (p : Nat) (t : Tk)
 | gv (p : Nat) (g : Gv)
def Ps.p : Ps → Nat
 | .tk p _ => p
 | .gv p _ => p
def Ps.has : Ps → Int → Prop
 | .tk _ _, _ => False
 | .gv _ g, s => g.slot = s
def W64 (x : Int) : Prop := 0 ≤ x ∧ x < 18446744073709551616
def Ps.fine (C : Cf) (w : Int → Int) (F : List Int) : Ps → Prop
 | .tk _ t => W64 t.top ∧ 0 ≤ t.next + 1 ∧ t.ok = false ∧ (t.pc = 0 ∨ (t.pc = 1 ∨ t.pc = 2) ∧ 0 ≤ t.slot ∧ t.slot < C.S ∧ topN t.top ≤ topN (w 1) ∧
   (t.top = w 1 → t.slot = topS (w 1) ∧ (t.pc = 2 → t.next = topS (w (C.slot t.slot + 1)))))
 | .gv _ g => W64 g.top ∧ 0 ≤ g.slot ∧ g.slot < C.S ∧ g.slot ∉ F ∧ (g.pc = 0 ∨ (g.pc = 1 ∨ g.pc = 2) ∧ topN g.top ≤ topN (w 1) ∧ topS g.top < C.S ∧ (g.pc = 2 → topS (w (C.slot g.slot + 1)) = topS g.top))
structure Sh (L : Int → Prop) (C : Cf) (w : Int → Int) (P : Int → Ps) (F : List Int) (k : Int) : Prop where
 fre : Fre C w F
 each : ∀ i, L i → (P i).fine C w F
 apart : ∀ i j s, L i → L j → (P i).has s → (P j).has s → i = j
 num : 0 ≤ topN (w 1) ∧ topN (w 1) ≤ k
def updP (P : Int → Ps) (i : Int) (x : Ps) : Int → Ps := fun j => if j = i then x else P j
theorem updP_same {P : Int → Ps} {i : Int} {x : Ps} : updP P i x i = x := by simp [updP]
theorem updP_ne {P : Int → Ps} {i j : Int} {x : Ps} (h : j ≠ i) : updP P i x j = P j := by simp [updP, h]
theorem Ps.fine.keep {w w' : Int → Int} {F F' : List Int} {x : Ps} (h : x.fine C w F) (h1 : w' 1 = w 1) (hF : ∀ s, x.has s → s ∉ F → s ∉ F')
  (hl : ∀ s, 0 ≤ s → s < C.S → (x.has s ∨ s = topS (w 1)) → topS (w' (C.slot s + 1)) = topS (w (C.slot s + 1))) : x.fine C w' F' := by
 cases x with
 | tk p t =>
  obtain ⟨a, b, c, d⟩ := h
  refine ⟨a, b, c, d.imp id ?_⟩
  rintro ⟨e, f, g, i, j⟩
  rw [h1]
  refine ⟨e, f, g, i, fun q => ?_⟩
  obtain ⟨j1, j2⟩ := j q
  refine ⟨j1, fun r => ?_⟩
  rw [j2 r, hl t.slot f g (.inr j1)]
 | gv p t =>
  obtain ⟨a, b, c, d, e⟩ := h
  refine ⟨a, b, c, hF _ rfl d, e.imp id ?_⟩
  rintro ⟨f, g, h, i⟩
  rw [h1]
  exact ⟨f, g, h, fun q => by rw [hl t.slot b c (.inl rfl)]; exact i q⟩
theorem Ps.fine.next {w w' : Int → Int} {F F' : List Int} {x : Ps} (h : x.fine C w F) (h1 : topN (w' 1) = topN (w 1) + 1) (hF : ∀ s, x.has s → s ∉ F → s ∉ F')
  (hl : ∀ s, 0 ≤ s → s < C.S → x.has s → topS (w' (C.slot s + 1)) = topS (w (C.slot s + 1))) : x.fine C w' F' := by
 cases x with
 | tk p t =>
  obtain ⟨a, b, c, d⟩ := h
  refine ⟨a, b, c, d.imp id ?_⟩
  rintro ⟨e, f, g, i, j⟩
  refine ⟨e, f, g, by omega, fun q => ?_⟩
  rw [q] at i; omega
 | gv p t =>
  obtain ⟨a, b, c, d, e⟩ := h
  refine ⟨a, b, c, hF _ rfl d, e.imp id ?_⟩
  rintro ⟨f, g, h, i⟩
  exact ⟨f, by omega, h, fun q => by rw [hl t.slot b c rfl]; exact i q⟩
theorem Sh.same {L : Int → Prop} {w : Int → Int} {P : Int → Ps} {F : List Int} {k : Int} (h : Sh L C w P F k) {i : Int} {x : Ps} (hx : x.fine C w F) (hh : ∀ s, x.has s ↔ (P i).has s) (h0 : L i) : Sh L C w (updP P i x) F k := by
 have e : ∀ j s, (updP P i x j).has s ↔ (P j).has s := by
  intro j s
  by_cases q : j = i
  ·subst q; rw [updP_same]; exact hh s
  ·rw [updP_ne q]
 refine ⟨h.fre, fun j j0 => ?_, fun a b s a0 b0 ha hb => h.apart a b s a0 b0 ((e a s).1 ha) ((e b s).1 hb), h.num⟩
 by_cases q : j = i
 ·subst q; rw [updP_same]; exact hx
 ·rw [updP_ne q]; exact h.each j j0
theorem topS_lt (hC : C.ok) {w : Int → Int} {F : List Int} (h : Fre C w F) : -1 ≤ topS (w 1) ∧ topS (w 1) < C.S := by
 have := h.c.first; have := hC.S; omega
theorem Sh.mono {L : Int → Prop} {w : Int → Int} {P : Int → Ps} {F : List Int} {k k' : Int} (h : Sh L C w P F k) (hk : k ≤ k') : Sh L C w P F k' := ⟨h.fre, h.each, h.apart, h.num.1, Int.le_trans h.num.2 hk⟩
section
variable {L : Int → Prop} {w : Int → Int} {P : Int → Ps} {F : List Int} {k i : Int} {p : Nat} {t : Tk} {g : Gv}
theorem Sh.tk_new (h : Sh L C w P F k) (h0 : L i) (hP : P i = .tk p t) (q : Nat) : Sh L C w (updP P i (.tk q Tk.new)) F k :=
 h.same ⟨⟨Int.le_refl 0, by decide⟩, by decide, rfl, .inl rfl⟩ (fun s => by rw [hP]; exact Iff.rfl) h0
theorem Sh.tk_look (hC : C.ok) (h : Sh L C w P F k) (h0 : L i) (hw : ∀ i, W64 (w i)) (hP : P i = .tk p t) (ht : ¬ topS (w 1) < 0) :
  Sh L C w (updP P i (.tk p ⟨1, w 1, t.next, topS (w 1), t.ok⟩)) F k := by
 have hx := h.each i h0
 rw [hP] at hx
 have := topS_lt hC h.fre
 refine h.same ⟨hw 1, hx.2.1, hx.2.2.1, .inr ⟨.inl rfl, by dsimp only; omega, this.2, Int.le_refl _, fun _ => ⟨rfl, fun h => by cases h⟩⟩⟩ (fun s => by rw [hP]; exact Iff.rfl) h0
theorem Sh.tk_link (h : Sh L C w P F k) (h0 : L i) (hw : ∀ i, W64 (w i)) (hP : P i = .tk p t) (hpc : t.pc = 1) :
  Sh L C w (updP P i (.tk p ⟨2, t.top, topS (w (C.slot t.slot + 1)), t.slot, t.ok⟩)) F k := by
 have hx := h.each i h0
 rw [hP] at hx
 obtain ⟨a, b, c, d⟩ := hx
 rcases d with d | ⟨_, e, f, g, j⟩
 ·omega
 have := topS_ge _ (hw (C.slot t.slot + 1)).1
 refine h.same ⟨a, by dsimp only; omega, c, .inr ⟨.inr rfl, e, f, g, fun q => ⟨(j q).1, fun _ => rfl⟩⟩⟩ (fun s => by rw [hP]; exact Iff.rfl) h0
theorem Sh.tk_fail (h : Sh L C w P F k) (h0 : L i) (hP : P i = .tk p t) : Sh L C w (updP P i (.tk p ⟨0, t.top, t.next, t.slot, false⟩)) F k := by
 have hx := h.each i h0
 rw [hP] at hx
 exact h.same ⟨hx.1, hx.2.1, rfl, .inl rfl⟩ (fun s => by rw [hP]; exact Iff.rfl) h0
theorem Sh.tk_take (hC : C.ok) (h : Sh L C w P F k) (hk : k < 100000) (h0 : L i) (hP : P i = .tk p t) (hpc : t.pc = 2) (he : w 1 = t.top) (q : Nat) :
  ∃ F', F = t.slot :: F' ∧ upd w 1 (putTop t.next (topN t.top + 1)) = tookW C w ∧ Sh L C (tookW C w) (updP P i (.gv q ⟨0, t.slot, 0⟩)) F' (k + 1) ∧ ∀ j, L j → ¬ (P j).has t.slot := by
 have hx := h.each i h0
 rw [hP] at hx
 obtain ⟨a, b, c, d⟩ := hx
 rcases d with d | ⟨_, e, f, g, j⟩
 ·omega
 obtain ⟨j1, j2⟩ := j he.symm
 have hF : ∃ F', F = t.slot :: F' := by
  cases F with
  | nil => have : topS (w 1) = -1 := h.fre.c; omega
  | cons x F' => exact ⟨F', by rw [j1, h.fre.c.1]⟩
 obtain ⟨F', rfl⟩ := hF
 have hs := h.fre.c.1
 have ew : upd w 1 (putTop t.next (topN t.top + 1)) = tookW C w := by
  unfold tookW; rw [j2 hpc, ← he, hs]
 have hno : ∀ j, L j → ¬ (P j).has t.slot := by
  intro j j0 hj
  have := h.each j j0
  cases hq : P j with
  | tk _ _ => rw [hq] at hj; exact hj
  | gv _ g => rw [hq] at hj this; exact this.2.2.2.1 (by rw [show g.slot = t.slot from hj]; simp)
 obtain ⟨fr', _⟩ := h.fre.took hC
 have hnum := h.num
 have hn := topN_took (C := C) h.num.1 (by omega)
 have hl : ∀ s, 0 ≤ s → topS (tookW C w (C.slot s + 1)) = topS (w (C.slot s + 1)) := by
  intro s s0
  unfold tookW; rw [upd_ne]
  have := hC.T; unfold Cf.slot; omega
 refine ⟨F', rfl, ew, ⟨fr', fun j j0 => ?_, fun a b s a0 b0 ha hb => ?_, by omega, by omega⟩, hno⟩
 ·by_cases q : j = i
  ·subst q; rw [updP_same]
   exact ⟨⟨Int.le_refl 0, (by decide : (0 : Int) < 18446744073709551616)⟩, e, f, (List.nodup_cons.1 h.fre.nd).1, .inl rfl⟩
  ·rw [updP_ne q]
   exact (h.each j j0).next hn (fun s _ hs hm => hs (by simp [hm])) (fun s s0 _ _ => hl s s0)
 ·by_cases qa : a = i <;> by_cases qb : b = i
  ·omega
  ·subst qa; rw [updP_same] at ha; rw [updP_ne qb] at hb
   have : t.slot = s := ha
   subst this; exact absurd hb (hno b b0)
  ·subst qb; rw [updP_same] at hb; rw [updP_ne qa] at ha
   have : t.slot = s := hb
   subst this; exact absurd ha (hno a a0)
  ·rw [updP_ne qa] at ha; rw [updP_ne qb] at hb; exact h.apart a b s a0 b0 ha hb
theorem Sh.gv_look (hC : C.ok) (h : Sh L C w P F k) (h0 : L i) (hw : ∀ i, W64 (w i)) (hP : P i = .gv p g) : Sh L C w (updP P i (.gv p ⟨1, g.slot, w 1⟩)) F k := by
 have hx := h.each i h0
 rw [hP] at hx
 have := topS_lt hC h.fre
 exact h.same ⟨hw 1, hx.2.1, hx.2.2.1, hx.2.2.2.1, .inr ⟨.inl rfl, Int.le_refl _, this.2, fun h => by cases h⟩⟩ (fun s => by rw [hP]; exact Iff.rfl) h0
theorem Sh.gv_fail (h : Sh L C w P F k) (h0 : L i) (hP : P i = .gv p g) : Sh L C w (updP P i (.gv p ⟨0, g.slot, g.top⟩)) F k := by
 have hx := h.each i h0
 rw [hP] at hx
 exact h.same ⟨hx.1, hx.2.1, hx.2.2.1, hx.2.2.2.1, .inl rfl⟩ (fun s => by rw [hP]; exact Iff.rfl) h0
theorem Sh.gv_link (hC : C.ok) (h : Sh L C w P F k) (h0 : L i) (hP : P i = .gv p g) (hpc : g.pc = 1) :
  Sh L C (upd w (C.slot g.slot + 1) (putTop (topS g.top) 0)) (updP P i (.gv p ⟨2, g.slot, g.top⟩)) F k := by
 have hx := h.each i h0
 rw [hP] at hx
 obtain ⟨a, b, c, d, e⟩ := hx
 rcases e with e | ⟨_, f, g1, _⟩
 ·omega
 have hT := hC.T
 have hS := hC.S
 have e1 : upd w (C.slot g.slot + 1) (putTop (topS g.top) 0) 1 = w 1 := upd_ne _ _ (by unfold Cf.slot; omega)
 have hl : ∀ s, s ≠ g.slot → topS (upd w (C.slot g.slot + 1) (putTop (topS g.top) 0) (C.slot s + 1)) = topS (w (C.slot s + 1)) := by
  intro s hs
  rw [upd_ne]
  intro q; exact hs (slot_inj C q)
 have ht := topS_ge _ a.1
 refine ⟨⟨?_, h.fre.nd⟩, fun j j0 => ?_, fun a b s a0 b0 ha hb => ?_, by rw [e1]; exact h.num⟩
 ·rw [e1]
  exact h.fre.c.congr fun s hs => hl s (by rintro rfl; exact d hs)
 ·by_cases q : j = i
  ·subst q; rw [updP_same]
   refine ⟨a, b, c, d, .inr ⟨.inr rfl, by rw [e1]; exact f, g1, fun _ => ?_⟩⟩
   dsimp only
   rw [upd_same, topS_put (by omega) (by omega)]
  ·rw [updP_ne q]
   refine (h.each j j0).keep e1 (fun s _ hs => hs) fun s s0 s1 hs => hl s ?_
   rcases hs with hs | hs
   ·rintro rfl
    exact q (h.apart j i g.slot j0 h0 hs (by rw [hP]; rfl))
   ·rintro rfl
    cases F with
    | nil => have : topS (w 1) = -1 := h.fre.c; omega
    | cons x F => exact d (by rw [hs, h.fre.c.1]; simp)
 ·have key : ∀ j s, (updP P i (.gv p ⟨2, g.slot, g.top⟩) j).has s ↔ (P j).has s := by
   intro j s
   by_cases q : j = i
   ·subst q; rw [updP_same, hP]; exact Iff.rfl
   ·rw [updP_ne q]
  exact h.apart a b s a0 b0 ((key a s).1 ha) ((key b s).1 hb)
theorem Sh.gv_give (hC : C.ok) (h : Sh L C w P F k) (hk : k < 100000) (h0 : L i) (hP : P i = .gv p g) (hpc : g.pc = 2) (he : w 1 = g.top) (q : Nat) :
  Sh L C (upd w 1 (putTop g.slot (topN g.top + 1))) (updP P i (.tk q Tk.new)) (g.slot :: F) (k + 1) := by
 have hx := h.each i h0
 rw [hP] at hx
 obtain ⟨a, b, c, d, e⟩ := hx
 rcases e with e | ⟨_, f, g1, g2⟩
 ·omega
 have hT := hC.T
 have hS := hC.S
 have hnum := h.num
 have e1 : upd w 1 (putTop g.slot (topN g.top + 1)) 1 = putTop g.slot (topN (w 1) + 1) := by rw [upd_same, he]
 have hl : ∀ s, 0 ≤ s → topS (upd w 1 (putTop g.slot (topN g.top + 1)) (C.slot s + 1)) = topS (w (C.slot s + 1)) := by
  intro s s0
  rw [upd_ne]; unfold Cf.slot; omega
 have hn : topN (upd w 1 (putTop g.slot (topN g.top + 1)) 1) = topN (w 1) + 1 := by rw [e1, topN_put (by omega) (by omega)]
 refine ⟨⟨⟨by rw [e1, topS_put (by omega) (by omega)], b, c, ?_⟩, List.nodup_cons.2 ⟨d, h.fre.nd⟩⟩, fun j j0 => ?_, fun x y s a0 b0 ha hb => ?_, by omega, by omega⟩
 ·have hc := h.fre.c
  have hm := hc.mem
  rw [he] at hc
  rw [hl _ b, g2 hpc]
  exact hc.congr fun s hs => hl s (hm s hs).1
 ·by_cases r : j = i
  ·subst r; rw [updP_same]; exact ⟨⟨Int.le_refl 0, by decide⟩, by decide, rfl, .inl rfl⟩
  ·rw [updP_ne r]
   refine (h.each j j0).next hn (fun s hs hm hm' => ?_) (fun s s0 _ _ => hl s s0)
   rcases List.mem_cons.1 hm' with rfl | hm'
   ·exact r (h.apart j i _ j0 h0 hs (by rw [hP]; rfl))
   ·exact hm hm'
 ·have ra : x ≠ i := by rintro rfl; rw [updP_same] at ha; exact ha
  have rb : y ≠ i := by rintro rfl; rw [updP_same] at hb; exact hb
  rw [updP_ne ra] at ha; rw [updP_ne rb] at hb
  exact h.apart x y s a0 b0 ha hb
end
end Go.Fl
namespace Go.Fl
open Go
set_option linter.unusedVariables false
set_option linter.unusedSimpArgs false
variable {N : Nm} {A B : Ar} {σ : Mem} {K : Value → Mem → Prop} {C : Cf} {who : Int}
def chS (w : Int) : Int := w % 4
def chC (w : Int) : Int := w / 4 % 64
def chU (w : Int) : Int := w / 256 % 1048576
def chN (w : Int) : Int := w / 268435456 % 68719476736
def putChunk (st c us sp : Int) : Int := cl st 3 + cl c 63 * 4 + cl us 1048575 * 256 + cl sp 68719476735 * 268435456
theorem putChunk_in (st c us sp : Int) : 0 ≤ putChunk st c us sp ∧ putChunk st c us sp < 18446744073709551616 := by unfold putChunk cl; omega
theorem c_PutChunk {st c us sp : Int} : s_cb [.agg #[.int .i64 st, .int .i64 c, .int .i64 us, .int .i64 sp]] K σ = K (.int .u64 (putChunk st c us sp)) σ := by
 simp only [s_cb, w_cb, ruS, ruL, ruX, Nat.reduceAdd, reduceIte, Int.reduceLT, Int.reduceLE, Int.reduceEq, Int.reduceNeg, Int.reduceAdd, Int.reduceSub, Nat.reduceLeDiff]
 have h1 := @cl_le st 3
 have h2 := @cl_nn st 3 (by decide)
 have h3 := @cl_le c 63
 have h4 := @cl_nn c 63 (by decide)
 have h5 := @cl_le us 1048575
 have h6 := @cl_nn us 1048575 (by decide)
 have h7 := @cl_le sp 68719476735
 have h8 := @cl_nn sp 68719476735 (by decide)
 rw [c_fit (by decide) (by decide), c_fit (by decide) (by decide), shl2 h4 (by omega), or2 h2 (by omega) h4 (by omega), c_fit (by decide) (by decide), shl8 h6 (by omega), or8 (by omega) (by omega) h6 (by omega),
  c_fit (by decide) (by decide), shl28 h8 (by omega), or28 (by omega) (by omega) h8 (by omega)]
 rfl
theorem c_wChunk {w : Int} (h0 : 0 ≤ w) (h1 : w < 18446744073709551616) : s_b7 [.int .u64 w] K σ = K (.agg #[.int .i64 (chS w), .int .i64 (chC w), .int .i64 (chU w), .int .i64 (chN w)]) σ := by
 have b : ∀ (a b c d : Int) (K : Value → Prop), xF (fBuild [(0, 1), (1, 1), (2, 1), (3, 1)] [.int .i64 0, .int .i64 0, .int .i64 0, .int .i64 0] [0, 1, 2, 3]) [.int .i64 a, .int .i64 b, .int .i64 c, .int .i64 d] K =
   K (.agg #[.int .i64 a, .int .i64 b, .int .i64 c, .int .i64 d]) := fun _ _ _ _ K => nr rfl
 simp only [s_b7, w_b7, gAlloc_s, xCs, ruS, Nat.reduceAdd, reduceIte, Int.reduceLT, Int.reduceLE, Int.reduceEq, Int.reduceNeg, Int.reduceAdd, Int.reduceSub]
 rw [and2 h0 h1]
 simp only [ruS, Nat.reduceAdd, reduceIte, Int.reduceLT, Int.reduceLE, Int.reduceEq, Int.reduceNeg, Int.reduceAdd, Int.reduceSub]
 rw [shr2 h0, and6 (by omega) (by omega)]
 simp only [ruS, Nat.reduceAdd, reduceIte, Int.reduceLT, Int.reduceLE, Int.reduceEq, Int.reduceNeg, Int.reduceAdd, Int.reduceSub]
 rw [shr8 h0, and20 (by omega) (by omega)]
 simp only [ruS, Nat.reduceAdd, reduceIte, Int.reduceLT, Int.reduceLE, Int.reduceEq, Int.reduceNeg, Int.reduceAdd, Int.reduceSub]
 rw [shr28 h0, and36 (by omega) (by omega)]
 simp only [ruS, Nat.reduceAdd, reduceIte, Int.reduceLT, Int.reduceLE, Int.reduceEq, Int.reduceNeg, Int.reduceAdd, Int.reduceSub]
 rw [IntWalk.i64_in (w % 4) (by omega), IntWalk.i64_in (w / 4 % 64) (by omega), IntWalk.i64_in (w / 256 % 1048576) (by omega), IntWalk.i64_in (w / 268435456 % 68719476736) (by omega), b]
 simp only [ruS, ruL, ruX, Nat.reduceAdd, reduceIte, Int.reduceLT, Int.reduceLE, Int.reduceEq, Int.reduceNeg, Int.reduceAdd, Int.reduceSub, Nat.reduceLeDiff]
 rfl
theorem chU_bd (w : Int) : 0 ≤ chU w ∧ chU w ≤ 1048575 := by unfold chU; omega
theorem chN_bd (w : Int) : 0 ≤ chN w ∧ chN w ≤ 68719476735 := by unfold chN; omega
theorem ch_put {st c us sp : Int} (h1 : 0 ≤ st ∧ st ≤ 3) (h2 : 0 ≤ c ∧ c ≤ 63) (h3 : 0 ≤ us ∧ us ≤ 1048575) (h4 : 0 ≤ sp ∧ sp ≤ 68719476735) :
  chS (putChunk st c us sp) = st ∧ chC (putChunk st c us sp) = c ∧ chU (putChunk st c us sp) = us ∧ chN (putChunk st c us sp) = sp := by
 have e : putChunk st c us sp = st + c * 4 + us * 256 + sp * 268435456 := by unfold putChunk; rw [cl_in h1.1 h1.2, cl_in h2.1 h2.2, cl_in h3.1 h3.2, cl_in h4.1 h4.2]
 rw [e]; unfold chS chC chU chN; omega
structure Pl where
 cls : Int
 pc : Int
 opn : Int
 at' : Int
 w : Int
 sa : Int
 sc : Int
 ok : Bool
def Pl.l (p : Pl) : List Value := [.int .i64 p.cls, .int .i64 p.pc, .int .u64 p.opn, .int .i64 p.at', .int .u64 p.w, .int .i64 p.sa, .int .i64 p.sc, .bool p.ok]
def Pl.new (c : Int) : Pl := ⟨c, 0, 0, 0, 0, 0, 0, false⟩
def Pl.fresh (p : Pl) : Int := putChunk 1 p.cls 0 (chN p.w + 1)
def Pl.next (C : Cf) (p : Pl) : Bool × Pl := (decide (C.C ≤ p.at' + 1), { p with at' := p.at' + 1, pc := 3 })
def Pl.step (C : Cf) (who : Int) (A : Ar) (p : Pl) : Bool × Pl × Ar :=
 if p.pc = 0 then
  let w := A.w (2 + p.cls)
  (false, (if IntKind.i64.wrap w - 1 < 0 then { p with opn := w, at' := 0, pc := 3 } else { p with opn := w, at' := IntKind.i64.wrap w - 1, pc := 1 }), (A.by who).load (2 + p.cls))
 else if p.pc = 1 then
  let w := A.w (C.chunk p.at')
  (false, (if chS w ≠ 1 ∨ chC w ≠ p.cls ∨ C.W < chU w + roomOf p.cls then { p with w := w, at' := 0, pc := 3 } else { p with w := w, pc := 2 }), (A.by who).load (C.chunk p.at'))
 else if p.pc = 2 then
  let good := A.w (C.chunk p.at') = p.w
  (decide good, (if good then { p with pc := 0, sa := C.base p.at' + chU p.w, sc := p.at', ok := true } else { p with pc := 0 }), (A.by who).cas (C.chunk p.at') p.w (putChunk (chS p.w) (chC p.w) (chU p.w + roomOf p.cls) (chN p.w)))
 else if p.pc = 3 then
  let w := A.w (C.chunk p.at')
  let q : Pl := { p with w := w }
  if chS w ≠ 0 then ((q.next C).1, (q.next C).2, (A.by who).load (C.chunk p.at')) else (false, { q with pc := 4 }, (A.by who).load (C.chunk p.at'))
 else if p.pc = 4 then
  if A.w (C.chunk p.at') = p.w then (false, { p with pc := 5 }, (A.by who).cas (C.chunk p.at') p.w p.fresh) else ((p.next C).1, (p.next C).2, (A.by who).cas (C.chunk p.at') p.w p.fresh)
 else if p.pc = 5 then
  (false, (if A.w (2 + p.cls) = p.opn then { p with pc := 0 } else { p with pc := 6 }), (A.by who).cas (2 + p.cls) p.opn (p.at' + 1))
 else (false, { p with pc := 0 }, (A.by who).cas (C.chunk p.at') p.fresh (putChunk 0 0 0 (chN p.w + 2)))
structure Pl.fit (C : Cf) (p : Pl) : Prop where
 cls : 0 ≤ p.cls ∧ p.cls ≤ 3
 opn : 0 ≤ p.opn ∧ p.opn < 18446744073709551616
 at' : 0 ≤ p.at' ∧ p.at' < C.C
 w : 0 ≤ p.w ∧ p.w < 18446744073709551616
theorem c_PlaceNew {c : Int} (hk : ∀ id τ, σ.get id = none → τ.get id = some ⟨(Pl.new c).l, true⟩ → Ext σ τ → K (.pointer (some ⟨id, 0, none⟩)) τ) : s_bu [.int .i64 c] K σ := by
 have b : ∀ K : Value → Prop, xF (fBuild [(0, 1), (1, 1), (2, 1), (3, 1), (4, 1), (5, 2), (7, 1)] [.int .i64 0, .int .i64 0, .int .u64 0, .int .i64 0, .int .u64 0, .int .i64 0, .int .i64 0, .bool false] [0]) [.int .i64 c] K =
   K (.agg #[.int .i64 c, .int .i64 0, .int .u64 0, .int .i64 0, .int .u64 0, .int .i64 0, .int .i64 0, .bool false]) := fun K => nr rfl
 simp only [s_bu, w_bu, b, ruS, Nat.reduceAdd, reduceIte, Int.reduceLT, Int.reduceLE, Int.reduceEq, Int.reduceNeg, Int.reduceAdd, Int.reduceSub]
 exact hBox_i (cs := [_, _, _, _, _, _, _, _]) rfl hk
theorem c_Place_Spot (hA : isA N A σ) {p : Nat} {pre post : List Value} {t : Pl} (hp : σ.get p = some ⟨pre ++ t.l ++ post, true⟩) (hd : p ∉ N.l)
  (hk : K (.tuple #[if t.ok = true then .agg #[.int .i64 t.sa, .int .i64 t.sc] else .agg #[.int .i64 0, .int .i64 0], .bool t.ok]) σ) : s_bv [.pointer (some ⟨p, pre.length, none⟩)] K σ := by
 have b : ∀ K : Value → Prop, xF (fBuild [(0, 1), (1, 1)] [.int .i64 0, .int .i64 0] []) [] K = K (.agg #[.int .i64 0, .int .i64 0]) := fun K => nr rfl
 have e := hA.obj hp
 generalize hq : σ = υ at *
 rw [e] at hk ⊢
 simp only [s_bv, w_bv, w_bv_j1, w_bv_j1b, Pl.l, ldO hd, b, ruS, ruL, ruE, Nat.reduceAdd, reduceIte, Int.reduceLT, Int.reduceLE, Int.reduceEq, Int.reduceNeg, Int.reduceAdd, Int.reduceSub, Nat.reduceLeDiff, Nat.reduceLT] at hk ⊢
 cases h : t.ok <;> simp only [h, xIfB, ldO hd, ruS, ruL, ruE, Nat.reduceAdd, reduceIte, Int.reduceLT, Int.reduceLE, Int.reduceEq, Int.reduceNeg, Int.reduceAdd, Int.reduceSub, Nat.reduceLeDiff, Nat.reduceLT, sub_l] at hk ⊢ <;> exact hk
theorem c_fresh {p : Nat} {pre post : List Value} {t : Pl} (hd : p ∉ N.l) (hw : 0 ≤ t.w ∧ t.w < 18446744073709551616) :
  s_bx [.pointer (some ⟨p, pre.length, none⟩)] K (putA N A (σ.set p ⟨pre ++ t.l ++ post, true⟩)) = K (.int .u64 t.fresh) (putA N A (σ.set p ⟨pre ++ t.l ++ post, true⟩)) := by
 have b : ∀ (a b c : Int) (K : Value → Prop), xF (fBuild [(0, 1), (1, 1), (2, 1), (3, 1)] [.int .i64 0, .int .i64 0, .int .i64 0, .int .i64 0] [0, 1, 3]) [.int .i64 a, .int .i64 b, .int .i64 c] K = K (.agg #[.int .i64 a, .int .i64 b, .int .i64 0, .int .i64 c]) := fun _ _ _ K => nr rfl
 have hN := chN_bd t.w
 simp only [s_bx, w_bx, Pl.l, ldO hd, ruS, ruL, ruE, Nat.reduceAdd, reduceIte, Int.reduceLT, Int.reduceLE, Int.reduceEq, Int.reduceNeg, Int.reduceAdd, Int.reduceSub, Nat.reduceLeDiff, Nat.reduceLT]
 rw [c_wChunk hw.1 hw.2]
 simp only [ruS, ruL, ruE, Nat.reduceAdd, reduceIte, Int.reduceLT, Int.reduceLE, Int.reduceEq, Int.reduceNeg, Int.reduceAdd, Int.reduceSub, Nat.reduceLeDiff, Nat.reduceLT]
 rw [IntWalk.i64_in (chN t.w + 1) (by omega), b, c_PutChunk]
 rfl
theorem c_on {p : Nat} {pre post : List Value} {t : Pl} (hd : p ∉ N.l) (ha : 0 ≤ t.at' ∧ t.at' < 1000) :
  s_bz [.pointer (some ⟨p, pre.length, none⟩), N.env C who] K (putA N A (σ.set p ⟨pre ++ t.l ++ post, true⟩)) = K (.bool (t.next C).1) (putA N A (σ.set p ⟨pre ++ (t.next C).2.l ++ post, true⟩)) := by
 simp only [s_bz, w_bz, Pl.l, stOi hd, ldO hd, ruS, ruL, ruE, Nat.reduceAdd, reduceIte, Int.reduceLT, Int.reduceLE, Int.reduceEq, Int.reduceNeg, Int.reduceAdd, Int.reduceSub, Nat.reduceLeDiff, Nat.reduceLT]
 rw [IntWalk.i64_in (t.at' + 1) (by omega)]
 rfl
end Go.Fl
namespace Go.Fl
open Go
set_option linter.unusedVariables false
set_option linter.unusedSimpArgs false
variable {N : Nm} {A B : Ar} {σ : Mem} {K : Value → Mem → Prop} {C : Cf} {who : Int}
theorem room_bd {k : Int} (h0 : 0 ≤ k) (h1 : k ≤ 3) : 3 ≤ roomOf k ∧ roomOf k ≤ 17 := by
 rcases (show k = 0 ∨ k = 1 ∨ k = 2 ∨ k = 3 by omega) with rfl | rfl | rfl | rfl <;> decide
theorem chunk_bd (h : C.ok) {a : Int} (h0 : 0 ≤ a) (h1 : a < C.C) (hn : C.len ≤ A.n) : 0 ≤ C.chunk a ∧ C.chunk a < A.n := by
 have := len_bd h; have := h.T; have := h.S; have := h.C
 unfold Cf.chunk at *; omega
theorem base_bd (h : C.ok) {a : Int} (h0 : 0 ≤ a) (h1 : a < 65536) : 0 ≤ C.base a ∧ C.base a ≤ 1000000000 := by
 have := h.T; have := h.S; have := h.C
 have := mulW h h0 (by omega)
 unfold Cf.base; omega
theorem gStoreH {a b c d w x y z : Int} : gStore 4 [.pointer (some ⟨5, 0, none⟩), .agg #[.int .i64 a, .int .i64 b, .int .i64 c, .int .i64 d]] [.int .i64 w, .int .i64 x, .int .i64 y, .int .i64 z] = some [.int .i64 a, .int .i64 b, .int .i64 c, .int .i64 d] := rfl
theorem sub4 {a b c d : Value} : sub [a, b, c, d] 0 4 true = some (.agg #[a, b, c, d]) := rfl
theorem c_Place_Step (hN : N.ok) (hC : C.ok) (hA : isA N A σ) {p : Nat} {pre post : List Value} {t : Pl} (hp : σ.get p = some ⟨pre ++ t.l ++ post, true⟩) (hd : p ∉ N.l)
  (hw : ∀ i, 0 ≤ A.w i ∧ A.w i < 18446744073709551616) (hn : C.len ≤ A.n) (hf : t.fit C) (ho : A.w (2 + t.cls) ≤ C.C)
  (hk : ∀ τ, isA N (t.step C who A).2.2 τ → τ.get p = some ⟨pre ++ (t.step C who A).2.1.l ++ post, true⟩ → Keep (p :: N.l) σ τ → K (.bool (t.step C who A).1) τ) :
  s_bw [.pointer (some ⟨p, pre.length, none⟩), N.env C who] K σ := by
 rw [hA.obj hp]
 have hl := len_bd hC
 have hT := hC.T
 have hS := hC.S
 have hCC := hC.C
 have hW := hC.W
 obtain ⟨f1, f2, f3, f4⟩ := hf
 have hch : C.chunk C.C = 6 + C.T + 2 * C.S + 3 * C.C := rfl
 have hcb := chunk_bd hC f3.1 f3.2 hn
 have hbb := base_bd hC f3.1 (by omega)
 have hrb := room_bd f1.1 f1.2
 have hwo := hw (2 + t.cls)
 have hwc := hw (C.chunk t.at')
 have hwr : IntKind.i64.wrap (A.w (2 + t.cls)) = A.w (2 + t.cls) := IntWalk.i64_in _ (by omega)
 simp only [s_bw, w_bw, w_bw_j1, w_bw_j1b, w_bw_j2, w_bw_j2b, Pl.l, ldO hd, ruS, ruL, ruE, Nat.reduceAdd, reduceIte, Int.reduceLT, Int.reduceLE, Int.reduceEq, Int.reduceNeg, Int.reduceAdd, Int.reduceSub, Nat.reduceLeDiff, Nat.reduceLT]
 by_cases c0 : t.pc = 0
 ·rw [if_pos c0, c_Open f1.1 (by omega), c_Load hN (by omega) (by omega)]
  simp only [stOi hd, stOb hd, ldO hd, ruS, ruL, ruE, Nat.reduceAdd, reduceIte, Int.reduceLT, Int.reduceLE, Int.reduceEq, Int.reduceNeg, Int.reduceAdd, Int.reduceSub, Nat.reduceLeDiff, Nat.reduceLT]
  rw [hwr, IntWalk.i64_in (A.w (2 + t.cls) - 1) (by omega)]
  simp only [Pl.step, if_pos c0, hwr] at hk
  by_cases q : A.w (2 + t.cls) - 1 < 0
  ·rw [if_pos q] at hk ⊢
   exact behind hN hd hk
  ·rw [if_neg q] at hk ⊢
   exact behind hN hd hk
 ·by_cases c1 : t.pc = 1
  ·rw [if_neg c0, if_pos c1, c_Chunk hC f3.1 (by omega), c_Load hN hcb.1 hcb.2]
   simp only [stOi hd, stOb hd, ldO hd, ruS, ruL, ruE, Nat.reduceAdd, reduceIte, Int.reduceLT, Int.reduceLE, Int.reduceEq, Int.reduceNeg, Int.reduceAdd, Int.reduceSub, Nat.reduceLeDiff, Nat.reduceLT]
   rw [c_wChunk hwc.1 hwc.2]
   simp only [stOi hd, ldO hd, gStoreH, Cf.v, Cf.l, ruS, ruL, ruE, Nat.reduceAdd, reduceIte, Int.reduceLT, Int.reduceLE, Int.reduceEq, Int.reduceNeg, Int.reduceAdd, Int.reduceSub, Nat.reduceLeDiff, Nat.reduceLT]
   simp only [Pl.step, if_neg c0, if_pos c1] at hk
   have hu := chU_bd (A.w (C.chunk t.at'))
   by_cases q1 : chS (A.w (C.chunk t.at')) = 1
   ·by_cases q2 : chC (A.w (C.chunk t.at')) = t.cls
    ·simp only [q1, q2, ruS, ruL, ruE, Nat.reduceAdd, reduceIte, Int.reduceLT, Int.reduceLE, Int.reduceEq, Int.reduceNeg, Int.reduceAdd, Int.reduceSub, Nat.reduceLeDiff, Nat.reduceLT]
     rw [c_Room f1.1 f1.2]
     simp only [ruS, ruL, ruE, Nat.reduceAdd, reduceIte, Int.reduceLT, Int.reduceLE, Int.reduceEq, Int.reduceNeg, Int.reduceAdd, Int.reduceSub, Nat.reduceLeDiff, Nat.reduceLT]
     rw [IntWalk.i64_in (chU (A.w (C.chunk t.at')) + roomOf t.cls) (by omega)]
     by_cases q3 : C.W < chU (A.w (C.chunk t.at')) + roomOf t.cls
     ·simp only [q3, stOi hd, ruS, ruL, ruE, Nat.reduceAdd, reduceIte, Int.reduceLT, Int.reduceLE, Int.reduceEq, Int.reduceNeg, Int.reduceAdd, Int.reduceSub, Nat.reduceLeDiff, Nat.reduceLT]
      rw [if_pos (.inr (.inr q3))] at hk
      exact behind hN hd hk
     ·simp only [q3, ruS, ruL, ruE, Nat.reduceAdd, reduceIte, Int.reduceLT, Int.reduceLE, Int.reduceEq, Int.reduceNeg, Int.reduceAdd, Int.reduceSub, Nat.reduceLeDiff, Nat.reduceLT]
      rw [if_neg (by rintro (h | h | h) <;> contradiction)] at hk
      exact behind hN hd hk
    ·simp only [q1, q2, ruS, ruL, ruE, Nat.reduceAdd, reduceIte, Int.reduceLT, Int.reduceLE, Int.reduceEq, Int.reduceNeg, Int.reduceAdd, Int.reduceSub, Nat.reduceLeDiff, Nat.reduceLT]
     rw [if_pos (.inr (.inl q2))] at hk
     exact behind hN hd hk
   ·simp only [q1, ruS, ruL, ruE, Nat.reduceAdd, reduceIte, Int.reduceLT, Int.reduceLE, Int.reduceEq, Int.reduceNeg, Int.reduceAdd, Int.reduceSub, Nat.reduceLeDiff, Nat.reduceLT]
    rw [if_pos (.inl q1)] at hk
    exact behind hN hd hk
  ·by_cases c2 : t.pc = 2
   ·rw [if_neg c0, if_neg c1, if_pos c2]
    simp only [Pl.step, if_neg c0, if_neg c1, if_pos c2] at hk
    simp only [s_by, w_by, ldO hd, ruS, ruL, ruE, Nat.reduceAdd, reduceIte, Int.reduceLT, Int.reduceLE, Int.reduceEq, Int.reduceNeg, Int.reduceAdd, Int.reduceSub, Nat.reduceLeDiff, Nat.reduceLT]
    rw [c_wChunk f4.1 f4.2]
    have hu := chU_bd t.w
    simp only [stOi hd, ldO hd, gStoreH, ruS, ruL, ruE, Nat.reduceAdd, reduceIte, Int.reduceLT, Int.reduceLE, Int.reduceEq, Int.reduceNeg, Int.reduceAdd, Int.reduceSub, Nat.reduceLeDiff, Nat.reduceLT]
    rw [c_Room f1.1 f1.2]
    simp only [ruS, ruL, ruE, Nat.reduceAdd, reduceIte, Int.reduceLT, Int.reduceLE, Int.reduceEq, Int.reduceNeg, Int.reduceAdd, Int.reduceSub, Nat.reduceLeDiff, Nat.reduceLT]
    rw [IntWalk.i64_in (chU t.w + roomOf t.cls) (by omega)]
    simp only [stOi hd, ldO hd, ruS, ruL, ruE, Nat.reduceAdd, reduceIte, Int.reduceLT, Int.reduceLE, Int.reduceEq, Int.reduceNeg, Int.reduceAdd, Int.reduceSub, Nat.reduceLeDiff, Nat.reduceLT]
    rw [c_Chunk hC f3.1 (by omega)]
    simp only [stOi hd, ldO hd, sub4, ruS, ruL, ruE, Nat.reduceAdd, reduceIte, Int.reduceLT, Int.reduceLE, Int.reduceEq, Int.reduceNeg, Int.reduceAdd, Int.reduceSub, Nat.reduceLeDiff, Nat.reduceLT]
    rw [c_PutChunk, c_Cas hN hcb.1 hcb.2]
    by_cases q : A.w (C.chunk t.at') = t.w
    ·have b : ∀ (a c : Int) (K : Value → Prop), xF (fBuild [(0, 1), (1, 1)] [.int .i64 0, .int .i64 0] [0, 1]) [.int .i64 a, .int .i64 c] K = K (.agg #[.int .i64 a, .int .i64 c]) := fun _ _ K => nr rfl
     simp only [q, ldO hd, ruS, ruL, ruE, Nat.reduceAdd, reduceIte, Int.reduceLT, Int.reduceLE, Int.reduceEq, Int.reduceNeg, Int.reduceAdd, Int.reduceSub, Nat.reduceLeDiff, Nat.reduceLT]
     rw [c_Base hC f3.1 (by omega)]
     simp only [ldO hd, ruS, ruL, ruE, Nat.reduceAdd, reduceIte, Int.reduceLT, Int.reduceLE, Int.reduceEq, Int.reduceNeg, Int.reduceAdd, Int.reduceSub, Nat.reduceLeDiff, Nat.reduceLT]
     rw [IntWalk.i64_in (C.base t.at' + chU t.w) (by omega), b]
     simp only [stOa hd, stOb hd, q, ruS, ruL, ruE, Nat.reduceAdd, reduceIte, Int.reduceLT, Int.reduceLE, Int.reduceEq, Int.reduceNeg, Int.reduceAdd, Int.reduceSub, Nat.reduceLeDiff, Nat.reduceLT] at hk ⊢
     exact behind hN hd hk
    ·simp only [q, ruS, ruL, ruE, Nat.reduceAdd, reduceIte, Int.reduceLT, Int.reduceLE, Int.reduceEq, Int.reduceNeg, Int.reduceAdd, Int.reduceSub, Nat.reduceLeDiff, Nat.reduceLT] at hk ⊢
     exact behind hN hd hk
   ·by_cases c3 : t.pc = 3
    ·rw [if_neg c0, if_neg c1, if_neg c2, if_pos c3, c_Chunk hC f3.1 (by omega), c_Load hN hcb.1 hcb.2]
     simp only [Pl.step, if_neg c0, if_neg c1, if_neg c2, if_pos c3] at hk
     simp only [stOi hd, stOb hd, ldO hd, ruS, ruL, ruE, Nat.reduceAdd, reduceIte, Int.reduceLT, Int.reduceLE, Int.reduceEq, Int.reduceNeg, Int.reduceAdd, Int.reduceSub, Nat.reduceLeDiff, Nat.reduceLT]
     rw [c_wChunk hwc.1 hwc.2]
     simp only [stOi hd, ldO hd, ruS, ruL, ruE, Nat.reduceAdd, reduceIte, Int.reduceLT, Int.reduceLE, Int.reduceEq, Int.reduceNeg, Int.reduceAdd, Int.reduceSub, Nat.reduceLeDiff, Nat.reduceLT]
     by_cases q : chS (A.w (C.chunk t.at')) = 0
     ·simp only [q, ruS, ruL, ruE, Nat.reduceAdd, reduceIte, Int.reduceLT, Int.reduceLE, Int.reduceEq, Int.reduceNeg, Int.reduceAdd, Int.reduceSub, Nat.reduceLeDiff, Nat.reduceLT]
      rw [if_neg (fun h => h q)] at hk
      exact behind hN hd hk
     ·simp only [q, ruS, ruL, ruE, Nat.reduceAdd, reduceIte, Int.reduceLT, Int.reduceLE, Int.reduceEq, Int.reduceNeg, Int.reduceAdd, Int.reduceSub, Nat.reduceLeDiff, Nat.reduceLT]
      rw [if_pos q] at hk
      exact Eq.mpr (c_on (K := K) (t := ⟨t.cls, t.pc, t.opn, t.at', A.w (C.chunk t.at'), t.sa, t.sc, t.ok⟩) hd ⟨f3.1, by dsimp only; omega⟩) (behind hN hd hk)
    ·by_cases c4 : t.pc = 4
     ·rw [if_neg c0, if_neg c1, if_neg c2, if_neg c3, if_pos c4, c_Chunk hC f3.1 (by omega)]
      simp only [Pl.step, if_neg c0, if_neg c1, if_neg c2, if_neg c3, if_pos c4] at hk
      simp only [stOi hd, stOb hd, ldO hd, ruS, ruL, ruE, Nat.reduceAdd, reduceIte, Int.reduceLT, Int.reduceLE, Int.reduceEq, Int.reduceNeg, Int.reduceAdd, Int.reduceSub, Nat.reduceLeDiff, Nat.reduceLT]
      refine Eq.mpr (c_fresh (t := t) hd f4) ?_
      rw [c_Cas hN hcb.1 hcb.2]
      by_cases q : A.w (C.chunk t.at') = t.w
      ·simp only [q, stOi hd, ldO hd, Pl.l, ruS, ruL, ruE, Nat.reduceAdd, reduceIte, Int.reduceLT, Int.reduceLE, Int.reduceEq, Int.reduceNeg, Int.reduceAdd, Int.reduceSub, Nat.reduceLeDiff, Nat.reduceLT] at hk ⊢
       exact behind hN hd hk
      ·simp only [q, ruS, ruL, ruE, Nat.reduceAdd, reduceIte, Int.reduceLT, Int.reduceLE, Int.reduceEq, Int.reduceNeg, Int.reduceAdd, Int.reduceSub, Nat.reduceLeDiff, Nat.reduceLT] at hk ⊢
       exact Eq.mpr (c_on (K := K) (t := t) hd ⟨f3.1, by omega⟩) (behind hN hd hk)
     ·by_cases c5 : t.pc = 5
      ·rw [if_neg c0, if_neg c1, if_neg c2, if_neg c3, if_neg c4, if_pos c5]
       simp only [Pl.step, if_neg c0, if_neg c1, if_neg c2, if_neg c3, if_neg c4, if_pos c5] at hk
       simp only [stOi hd, ldO hd, ruS, ruL, ruE, Nat.reduceAdd, reduceIte, Int.reduceLT, Int.reduceLE, Int.reduceEq, Int.reduceNeg, Int.reduceAdd, Int.reduceSub, Nat.reduceLeDiff, Nat.reduceLT]
       rw [c_Open f1.1 (by omega)]
       simp only [stOi hd, ldO hd, ruS, ruL, ruE, Nat.reduceAdd, reduceIte, Int.reduceLT, Int.reduceLE, Int.reduceEq, Int.reduceNeg, Int.reduceAdd, Int.reduceSub, Nat.reduceLeDiff, Nat.reduceLT]
       rw [IntWalk.i64_in (t.at' + 1) (by omega), show IntKind.u64.wrap (t.at' + 1) = t.at' + 1 from IntWalk.u64_in _ (by omega), c_Cas hN (by omega) (by omega)]
       by_cases q : A.w (2 + t.cls) = t.opn
       ·simp only [q, stOi hd, ldO hd, ruS, ruL, ruE, Nat.reduceAdd, reduceIte, Int.reduceLT, Int.reduceLE, Int.reduceEq, Int.reduceNeg, Int.reduceAdd, Int.reduceSub, Nat.reduceLeDiff, Nat.reduceLT] at hk ⊢
        exact behind hN hd hk
       ·simp only [q, ruS, ruL, ruE, Nat.reduceAdd, reduceIte, Int.reduceLT, Int.reduceLE, Int.reduceEq, Int.reduceNeg, Int.reduceAdd, Int.reduceSub, Nat.reduceLeDiff, Nat.reduceLT] at hk ⊢
        exact behind hN hd hk
      ·rw [if_neg c0, if_neg c1, if_neg c2, if_neg c3, if_neg c4, if_neg c5, c_wChunk f4.1 f4.2]
       simp only [Pl.step, if_neg c0, if_neg c1, if_neg c2, if_neg c3, if_neg c4, if_neg c5] at hk
       have hN := chN_bd t.w
       have b : ∀ (a : Int) (K : Value → Prop), xF (fBuild [(0, 1), (1, 1), (2, 1), (3, 1)] [.int .i64 0, .int .i64 0, .int .i64 0, .int .i64 0] [3]) [.int .i64 a] K = K (.agg #[.int .i64 0, .int .i64 0, .int .i64 0, .int .i64 a]) := fun _ K => nr rfl
       simp only [ruS, ruL, ruE, Nat.reduceAdd, reduceIte, Int.reduceLT, Int.reduceLE, Int.reduceEq, Int.reduceNeg, Int.reduceAdd, Int.reduceSub, Nat.reduceLeDiff, Nat.reduceLT]
       rw [IntWalk.i64_in (chN t.w + 2) (by omega), b, c_PutChunk]
       simp only [stOi hd, ldO hd, ruS, ruL, ruE, Nat.reduceAdd, reduceIte, Int.reduceLT, Int.reduceLE, Int.reduceEq, Int.reduceNeg, Int.reduceAdd, Int.reduceSub, Nat.reduceLeDiff, Nat.reduceLT]
       rw [c_Chunk hC f3.1 (by omega)]
       refine Eq.mpr (c_fresh (t := t) hd f4) ?_
       rw [c_Cas ‹N.ok› hcb.1 hcb.2]
       simp only [stOi hd, ldO hd, Pl.l, ruS, ruL, ruE, Nat.reduceAdd, reduceIte, Int.reduceLT, Int.reduceLE, Int.reduceEq, Int.reduceNeg, Int.reduceAdd, Int.reduceSub, Nat.reduceLeDiff, Nat.reduceLT] at hk ⊢
       exact behind ‹N.ok› hd hk
end Go.Fl
namespace Go.Fl
open Go
set_option linter.unusedVariables false
set_option linter.unusedSimpArgs false
variable {N : Nm} {A B : Ar} {σ : Mem} {K : Value → Mem → Prop} {C : Cf} {who : Int}
def ofC (C : Cf) (a : Int) : Int := if C.base 0 ≤ a ∧ a < C.len then (a - C.base 0) / C.W else -1
theorem c_Of (hC : C.ok) {a : Int} (ha : a < 9223372036854775808) : s_bf [C.v, .int .i64 a] K σ = K (.int .i64 (ofC C a)) σ := by
 have hW := hC.W
 have hl := len_bd hC
 have hT := hC.T
 have hS := hC.S
 have hCC := hC.C
 have hb : C.base 0 = 6 + C.T + 2 * C.S + 3 * C.C := by unfold Cf.base; omega
 simp only [s_bf, w_bf, w_bf_j1, w_bf_j1b, c_Base hC (Int.le_refl 0) (by decide : (0 : Int) ≤ 65536), c_lLen hC, ruS, ruL, ruE, Nat.reduceAdd, reduceIte, Int.reduceLT, Int.reduceLE, Int.reduceEq, Int.reduceNeg, Int.reduceAdd, Int.reduceSub, Nat.reduceLeDiff, Nat.reduceLT]
 unfold ofC
 by_cases c1 : a < C.base 0
 ·simp only [c1, ruS, ruL, ruE, Nat.reduceAdd, reduceIte, Int.reduceLT, Int.reduceLE, Int.reduceEq, Int.reduceNeg, Int.reduceAdd, Int.reduceSub, Nat.reduceLeDiff, Nat.reduceLT]
  rw [if_neg (by omega)]
 ·by_cases c2 : C.len ≤ a
  ·simp only [c1, c2, ruS, ruL, ruE, Nat.reduceAdd, reduceIte, Int.reduceLT, Int.reduceLE, Int.reduceEq, Int.reduceNeg, Int.reduceAdd, Int.reduceSub, Nat.reduceLeDiff, Nat.reduceLT]
   rw [if_neg (by omega)]
  ·simp only [c1, c2, xQuo (show C.W ≠ 0 by omega), ruS, ruL, ruE, Nat.reduceAdd, reduceIte, Int.reduceLT, Int.reduceLE, Int.reduceEq, Int.reduceNeg, Int.reduceAdd, Int.reduceSub, Nat.reduceLeDiff, Nat.reduceLT]
   rw [if_pos (by omega), IntWalk.i64_in (a - C.base 0) (by omega), Int.tdiv_eq_ediv_of_nonneg (by omega)]
   have := Int.ediv_le_self C.W (show 0 ≤ a - C.base 0 by omega)
   have := Int.ediv_nonneg (show 0 ≤ a - C.base 0 by omega) (show 0 ≤ C.W by omega)
   rw [IntWalk.i64_in _ (by omega)]
theorem rClass_round {J1 R1 : List Value → List (List Value) → Mem → Prop} {b : Nat} {L : List Value} {i : Nat} {x r : Int} (hi : i < 4) (g : σ.get b = some ⟨L, true⟩) (e : L[i]? = some (.int .i64 r))
  (hk : if x ≤ r then K (.int .i64 (i : Int)) σ else R1 [.int .i64 x, .slice (some ⟨b, 0, none⟩) 4 1, .int .i64 ((i + 1 : Nat) : Int)] [] σ) :
  w_ref04_Class_l6 K J1 R1 [.int .i64 x, .slice (some ⟨b, 0, none⟩) 4 1, .int .i64 (i : Int)] [] σ := by
 have h0 : (0 : Int) ≤ (i : Int) := by omega
 have h1 : (i : Int) < ((4 : Nat) : Int) := by omega
 have q : sub L i 1 false = some (.int .i64 r) := sub_one e
 simp only [w_ref04_Class_l6, w_ref04_Class_l6b, ruS, Nat.reduceAdd, reduceIte, Int.reduceLT, Int.reduceLE, Int.reduceEq, Int.reduceNeg, Int.reduceAdd, Int.reduceSub, xIxS h0 h1, Int.toNat_natCast, Nat.mul_one, hLoad_eq g, q]
 rw [if_pos (by omega)]
 by_cases c : x ≤ r
 ·rw [if_pos c] at hk ⊢; exact hk
 ·rw [if_neg c] at hk ⊢
  rw [IntWalk.i64_in _ (by omega)]; exact hk
theorem c_rClass {n : Int} (hk : ∀ τ, Ext σ τ → K (.int .i64 (classOf n)) τ) : s_b0 [.int .i64 n] K σ := by
 simp only [s_b0, w_b0, ruS, Nat.reduceAdd, reduceIte, Int.reduceLT, Int.reduceLE, Int.reduceEq, Int.reduceNeg, Int.reduceAdd, Int.reduceSub]
 refine hBuildS_i [.int .i64 2, .int .i64 4, .int .i64 8, .int .i64 16] rfl fun b τ _ g x => ?_
 replace hk := hk τ x
 unfold classOf at hk
 by_cases c : n < 1
 ·rw [if_pos c] at hk ⊢; exact hk
 rw [if_neg c] at hk ⊢
 refine xLoop_fold (rClass_round (i := 0) (by decide) g rfl ?_)
 by_cases c1 : n ≤ 2
 ·rw [if_pos c1] at hk ⊢; exact hk
 rw [if_neg c1] at hk ⊢
 refine xLoop_fold (rClass_round (i := 1) (by decide) g rfl ?_)
 by_cases c1 : n ≤ 4
 ·rw [if_pos c1] at hk ⊢; exact hk
 rw [if_neg c1] at hk ⊢
 refine xLoop_fold (rClass_round (i := 2) (by decide) g rfl ?_)
 by_cases c1 : n ≤ 8
 ·rw [if_pos c1] at hk ⊢; exact hk
 rw [if_neg c1] at hk ⊢
 refine xLoop_fold (rClass_round (i := 3) (by decide) g rfl ?_)
 by_cases c1 : n ≤ 16
 ·rw [if_pos c1] at hk ⊢; exact hk
 rw [if_neg c1] at hk ⊢
 refine xLoop_fold ?_
 simp only [w_ref04_Class_l6, w_ref04_Class_l6b, w_b0_j1, w_b0_j1b, ruS, Nat.reduceAdd, reduceIte, Int.reduceLT, Int.reduceLE, Int.reduceEq, Int.reduceNeg, Int.reduceAdd, Int.reduceSub]
 exact hk
end Go.Fl
namespace Go.Fl
open Go
set_option linter.unusedVariables false
set_option linter.unusedSimpArgs false
variable {N : Nm} {A B : Ar} {σ : Mem} {K : Value → Mem → Prop} {C : Cf} {who : Int}
theorem w0_open (hC : C.ok) {c : Int} (h0 : 0 ≤ c) (h1 : c ≤ 3) : C.w0 (2 + c) = 0 := by
 have := hC.T; have := hC.S
 unfold Cf.w0 Cf.fr Cf.slot
 rw [if_neg (by omega), if_neg (by omega), if_neg (by omega)]
theorem w0_chunk (hC : C.ok) {j : Int} (h0 : 0 ≤ j) : C.w0 (C.chunk j) = 0 := by
 have := hC.T; have := hC.S
 unfold Cf.w0 Cf.fr Cf.slot Cf.chunk
 rw [if_neg (by omega), if_neg (by omega), if_neg (by omega)]
structure Pa (C : Cf) (A : Ar) (b : Int) : Prop where
 ok : A.ok b
 n : C.len ≤ A.n
 op : ∀ c, 0 ≤ c → c ≤ 3 → A.w (2 + c) ≤ C.C
theorem Pa.mono {b b' : Int} (h : Pa C A b) (hb : b ≤ b') : Pa C A b' := ⟨⟨h.ok.w, ⟨h.ok.s.1, by have := h.ok.s.2; omega⟩, h.ok.t⟩, h.n, h.op⟩
structure Go1 (C : Cf) (A : Ar) (p : Pl) (r : Bool × Pl × Ar) (a : Int) : Prop where
 wh : a = 2 + p.cls ∨ a = C.chunk p.at'
 la : r.2.2.la = a
 s : r.2.2.s = A.s + 1
 n : r.2.2.n = A.n
 w : ∀ i, i ≠ a → r.2.2.w i = A.w i
 cls : r.2.1.cls = p.cls
theorem aw {w : Int → Int} {a v i : Int} {c : Prop} [Decidable c] (h : i ≠ a) : (if c then upd w a v else w) i = w i := by
 split
 ·exact upd_ne _ _ h
 ·rfl
theorem Pl.go (hC : C.ok) {b : Int} (hb : b < 4611686018427387904) (h : Pa C A b) {p : Pl} (hf : p.fit C) :
  Pa C (p.step C who A).2.2 (b + 1) ∧ ((p.step C who A).1 = false → (p.step C who A).2.1.fit C) ∧ ∃ a, Go1 C A p (p.step C who A) a := by
 obtain ⟨ok, n, op⟩ := h
 obtain ⟨f1, f2, f3, f4⟩ := hf
 have hC3 := hC.C
 have hT := hC.T
 have hS := hC.S
 have hcb := chunk_bd hC f3.1 f3.2 n
 have hwo := ok.w (2 + p.cls)
 have hwc := ok.w (C.chunk p.at')
 have hoo := op p.cls f1.1 f1.2
 have hwr : IntKind.i64.wrap (A.w (2 + p.cls)) = A.w (2 + p.cls) := IntWalk.i64_in _ (by omega)
 have hne : ∀ c, 0 ≤ c → c ≤ 3 → 2 + c ≠ C.chunk p.at' := fun c c0 c3 => by unfold Cf.chunk; omega
 have L : ∀ a, Pa C ((A.by who).load a) (b + 1) := fun a =>
  ⟨(aft_load ok (by omega)).ok (by decide) ok ok.w, n, op⟩
 have Cs : ∀ o v, 0 ≤ v ∧ v < 18446744073709551616 → Pa C ((A.by who).cas (C.chunk p.at') o v) (b + 1) := by
  intro o v hv
  have a1 := aft_cas (who := who) (a := C.chunk p.at') (o := o) (v := v) ok (by omega)
  refine ⟨a1.ok (by decide) ok (fun i => ?_), by rw [a1.n]; exact n, fun c c0 c3 => ?_⟩
  ·split
   ·exact upd_cases (P := fun x => 0 ≤ x ∧ x < 18446744073709551616) hv (ok.w i)
   ·exact ok.w i
  ·rw [a1.w, aw (hne c c0 c3)]; exact op c c0 c3
 have nx : ∀ q : Pl, 0 ≤ q.cls ∧ q.cls ≤ 3 → 0 ≤ q.opn ∧ q.opn < 18446744073709551616 → 0 ≤ q.at' → 0 ≤ q.w ∧ q.w < 18446744073709551616 → (q.next C).1 = false → (q.next C).2.fit C := by
  intro q a b c d e
  have e' : ¬ C.C ≤ q.at' + 1 := of_decide_eq_false e
  exact ⟨a, b, ⟨by show 0 ≤ q.at' + 1; omega, by show q.at' + 1 < C.C; omega⟩, d⟩
 unfold Pl.step
 by_cases c0 : p.pc = 0
 ·rw [if_pos c0]
  dsimp only
  rw [hwr]
  refine ⟨L _, fun _ => ?_, 2 + p.cls, ⟨.inl rfl, rfl, (aft_load (who := who) (a := 2 + p.cls) ok (by omega)).s, rfl, fun _ _ => rfl, ?_⟩⟩
  ·split
   ·exact ⟨f1, hwo, ⟨Int.le_refl 0, by show (0 : Int) < C.C; omega⟩, f4⟩
   ·exact ⟨f1, hwo, ⟨by dsimp only; omega, by dsimp only; omega⟩, f4⟩
  ·split <;> rfl
 rw [if_neg c0]
 by_cases c1 : p.pc = 1
 ·rw [if_pos c1]
  refine ⟨L _, fun _ => ?_, C.chunk p.at', ⟨.inr rfl, rfl, (aft_load (who := who) (a := C.chunk p.at') ok (by omega)).s, rfl, fun _ _ => rfl, ?_⟩⟩
  ·dsimp only
   split
   ·exact ⟨f1, f2, ⟨Int.le_refl 0, by show (0 : Int) < C.C; omega⟩, hwc⟩
   ·exact ⟨f1, f2, f3, hwc⟩
  ·dsimp only; split <;> rfl
 rw [if_neg c1]
 by_cases c2 : p.pc = 2
 ·rw [if_pos c2]
  have a1 := fun v => aft_cas (who := who) (a := C.chunk p.at') (o := p.w) (v := v) ok (by omega)
  refine ⟨Cs _ _ (putChunk_in _ _ _ _), fun _ => ?_, C.chunk p.at', ⟨.inr rfl, cas_la, (a1 _).s, (a1 _).n, fun i hi => by rw [(a1 _).w, aw hi], ?_⟩⟩
  ·dsimp only; split <;> exact ⟨f1, f2, f3, f4⟩
  ·dsimp only; split <;> rfl
 rw [if_neg c2]
 by_cases c3 : p.pc = 3
 ·rw [if_pos c3]
  dsimp only
  split
  ·exact ⟨L _, nx _ f1 f2 f3.1 hwc, C.chunk p.at', ⟨.inr rfl, rfl, (aft_load (who := who) (a := C.chunk p.at') ok (by omega)).s, rfl, fun _ _ => rfl, rfl⟩⟩
  ·exact ⟨L _, fun _ => ⟨f1, f2, f3, hwc⟩, C.chunk p.at', ⟨.inr rfl, rfl, (aft_load (who := who) (a := C.chunk p.at') ok (by omega)).s, rfl, fun _ _ => rfl, rfl⟩⟩
 rw [if_neg c3]
 by_cases c4 : p.pc = 4
 ·rw [if_pos c4]
  have a1 := fun v => aft_cas (who := who) (a := C.chunk p.at') (o := p.w) (v := v) ok (by omega)
  split
  ·exact ⟨Cs _ _ (putChunk_in _ _ _ _), fun _ => ⟨f1, f2, f3, f4⟩, C.chunk p.at', ⟨.inr rfl, cas_la, (a1 _).s, (a1 _).n, fun i hi => by rw [(a1 _).w, aw hi], rfl⟩⟩
  ·exact ⟨Cs _ _ (putChunk_in _ _ _ _), nx _ f1 f2 f3.1 f4, C.chunk p.at', ⟨.inr rfl, cas_la, (a1 _).s, (a1 _).n, fun i hi => by rw [(a1 _).w, aw hi], rfl⟩⟩
 rw [if_neg c4]
 by_cases c5 : p.pc = 5
 ·rw [if_pos c5]
  have a1 := fun v => aft_cas (who := who) (a := 2 + p.cls) (o := p.opn) (v := v) ok (by omega)
  refine ⟨⟨(a1 _).ok (by decide) ok (fun i => ?_), by rw [(a1 _).n]; exact n, fun c c0 c3 => ?_⟩, fun _ => ?_, 2 + p.cls, ⟨.inl rfl, cas_la, (a1 _).s, (a1 _).n, fun i hi => by rw [(a1 _).w, aw hi], ?_⟩⟩
  ·split
   ·exact upd_cases (P := fun x => 0 ≤ x ∧ x < 18446744073709551616) (by omega) (ok.w i)
   ·exact ok.w i
  ·rw [(a1 _).w]
   split
   ·exact upd_cases (P := fun x => x ≤ C.C) (by omega) (op c c0 c3)
   ·exact op c c0 c3
  ·dsimp only; split <;> exact ⟨f1, f2, f3, f4⟩
  ·dsimp only; split <;> rfl
 ·rw [if_neg c5]
  have a1 := fun v => aft_cas (who := who) (a := C.chunk p.at') (o := p.fresh) (v := v) ok (by omega)
  exact ⟨Cs _ _ (putChunk_in _ _ _ _), fun _ => ⟨f1, f2, f3, f4⟩, C.chunk p.at', ⟨.inr rfl, cas_la, (a1 _).s, (a1 _).n, fun i hi => by rw [(a1 _).w, aw hi], rfl⟩⟩
theorem Pl.new_fit (hC : C.ok) {c : Int} (h0 : 0 ≤ c) (h1 : c ≤ 3) : (Pl.new c).fit C := by
 have := hC.C
 exact ⟨⟨h0, h1⟩, ⟨Int.le_refl 0, by show (0 : Int) < 18446744073709551616; decide⟩, ⟨Int.le_refl 0, by show (0 : Int) < C.C; omega⟩, ⟨Int.le_refl 0, by show (0 : Int) < 18446744073709551616; decide⟩⟩
def Pl.spot (p : Pl) : Value := .tuple #[if p.ok = true then .agg #[.int .i64 p.sa, .int .i64 p.sc] else .agg #[.int .i64 0, .int .i64 0], .bool p.ok]
end Go.Fl
namespace Go.Fl
open Go
set_option linter.unusedVariables false
set_option linter.unusedSimpArgs false
variable {N : Nm} {A B : Ar} {σ : Mem} {K : Value → Mem → Prop} {C : Cf} {who : Int}
theorem chunk_inj {i j : Int} (h : C.chunk i = C.chunk j) : i = j := by unfold Cf.chunk at h; omega
theorem chunk_ne (hC : C.ok) {i c : Int} (h0 : 0 ≤ i) (h1 : c ≤ 3) : C.chunk i ≠ 2 + c := by have := hC.T; have := hC.S; unfold Cf.chunk; omega
section
variable {p : Pl}
theorem Pl.s0a (h : p.pc = 0) (hn : IntKind.i64.wrap (A.w (2 + p.cls)) - 1 < 0) : p.step C who A = (false, { p with opn := A.w (2 + p.cls), at' := 0, pc := 3 }, (A.by who).load (2 + p.cls)) := by
 unfold Pl.step; rw [if_pos h]; dsimp only; rw [if_pos hn]
theorem Pl.s0b (h : p.pc = 0) (hn : ¬ IntKind.i64.wrap (A.w (2 + p.cls)) - 1 < 0) : p.step C who A = (false, { p with opn := A.w (2 + p.cls), at' := IntKind.i64.wrap (A.w (2 + p.cls)) - 1, pc := 1 }, (A.by who).load (2 + p.cls)) := by
 unfold Pl.step; rw [if_pos h]; dsimp only; rw [if_neg hn]
theorem Pl.s1a (h : p.pc = 1) (hn : chS (A.w (C.chunk p.at')) ≠ 1 ∨ chC (A.w (C.chunk p.at')) ≠ p.cls ∨ C.W < chU (A.w (C.chunk p.at')) + roomOf p.cls) :
  p.step C who A = (false, { p with w := A.w (C.chunk p.at'), at' := 0, pc := 3 }, (A.by who).load (C.chunk p.at')) := by
 unfold Pl.step; rw [if_neg (by omega), if_pos h]; dsimp only; rw [if_pos hn]
theorem Pl.s1b (h : p.pc = 1) (hn : ¬ (chS (A.w (C.chunk p.at')) ≠ 1 ∨ chC (A.w (C.chunk p.at')) ≠ p.cls ∨ C.W < chU (A.w (C.chunk p.at')) + roomOf p.cls)) :
  p.step C who A = (false, { p with w := A.w (C.chunk p.at'), pc := 2 }, (A.by who).load (C.chunk p.at')) := by
 unfold Pl.step; rw [if_neg (by omega), if_pos h]; dsimp only; rw [if_neg hn]
theorem Pl.s2a (h : p.pc = 2) (hn : A.w (C.chunk p.at') = p.w) :
  p.step C who A = (true, { p with pc := 0, sa := C.base p.at' + chU p.w, sc := p.at', ok := true }, (A.by who).cas (C.chunk p.at') p.w (putChunk (chS p.w) (chC p.w) (chU p.w + roomOf p.cls) (chN p.w))) := by
 unfold Pl.step; rw [if_neg (by omega), if_neg (by omega), if_pos h]; dsimp only; rw [if_pos hn, decide_eq_true hn]
theorem Pl.s2b (h : p.pc = 2) (hn : ¬ A.w (C.chunk p.at') = p.w) :
  p.step C who A = (false, { p with pc := 0 }, (A.by who).cas (C.chunk p.at') p.w (putChunk (chS p.w) (chC p.w) (chU p.w + roomOf p.cls) (chN p.w))) := by
 unfold Pl.step; rw [if_neg (by omega), if_neg (by omega), if_pos h]; dsimp only; rw [if_neg hn, decide_eq_false hn]
theorem Pl.s3a (h : p.pc = 3) (hn : chS (A.w (C.chunk p.at')) ≠ 0) :
  p.step C who A = (decide (C.C ≤ p.at' + 1), { p with w := A.w (C.chunk p.at'), at' := p.at' + 1, pc := 3 }, (A.by who).load (C.chunk p.at')) := by
 unfold Pl.step; rw [if_neg (by omega), if_neg (by omega), if_neg (by omega), if_pos h]; dsimp only; rw [if_pos hn]; rfl
theorem Pl.s3b (h : p.pc = 3) (hn : chS (A.w (C.chunk p.at')) = 0) :
  p.step C who A = (false, { p with w := A.w (C.chunk p.at'), pc := 4 }, (A.by who).load (C.chunk p.at')) := by
 unfold Pl.step; rw [if_neg (by omega), if_neg (by omega), if_neg (by omega), if_pos h]; dsimp only; rw [if_neg (fun q => q hn)]
theorem Pl.s4a (h : p.pc = 4) (hn : A.w (C.chunk p.at') = p.w) :
  p.step C who A = (false, { p with pc := 5 }, (A.by who).cas (C.chunk p.at') p.w p.fresh) := by
 unfold Pl.step; rw [if_neg (by omega), if_neg (by omega), if_neg (by omega), if_neg (by omega), if_pos h, if_pos hn]
theorem Pl.s4b (h : p.pc = 4) (hn : ¬ A.w (C.chunk p.at') = p.w) :
  p.step C who A = (decide (C.C ≤ p.at' + 1), { p with at' := p.at' + 1, pc := 3 }, (A.by who).cas (C.chunk p.at') p.w p.fresh) := by
 unfold Pl.step; rw [if_neg (by omega), if_neg (by omega), if_neg (by omega), if_neg (by omega), if_pos h, if_neg hn]; rfl
theorem Pl.s5a (h : p.pc = 5) (hn : A.w (2 + p.cls) = p.opn) :
  p.step C who A = (false, { p with pc := 0 }, (A.by who).cas (2 + p.cls) p.opn (p.at' + 1)) := by
 unfold Pl.step; rw [if_neg (by omega), if_neg (by omega), if_neg (by omega), if_neg (by omega), if_neg (by omega), if_pos h, if_pos hn]
theorem Pl.s5b (h : p.pc = 5) (hn : ¬ A.w (2 + p.cls) = p.opn) :
  p.step C who A = (false, { p with pc := 6 }, (A.by who).cas (2 + p.cls) p.opn (p.at' + 1)) := by
 unfold Pl.step; rw [if_neg (by omega), if_neg (by omega), if_neg (by omega), if_neg (by omega), if_neg (by omega), if_pos h, if_neg hn]
theorem Pl.s6 (h0 : p.pc ≠ 0) (h1 : p.pc ≠ 1) (h2 : p.pc ≠ 2) (h3 : p.pc ≠ 3) (h4 : p.pc ≠ 4) (h5 : p.pc ≠ 5) :
  p.step C who A = (false, { p with pc := 0 }, (A.by who).cas (C.chunk p.at') p.fresh (putChunk 0 0 0 (chN p.w + 2))) := by
 unfold Pl.step; rw [if_neg h0, if_neg h1, if_neg h2, if_neg h3, if_neg h4, if_neg h5]
end
end Go.Fl
namespace Go.Fl
open Go
set_option linter.unusedVariables false
set_option linter.unusedSimpArgs false
variable {N : Nm} {A B : Ar} {σ : Mem} {K : Value → Mem → Prop} {C : Cf} {who : Int}
def slS (w : Int) : Int := w % 8
def slA (w : Int) : Int := w / 8 % 1048576
def slG (w : Int) : Int := w / 8388608 % 65536
def slV (w : Int) : Int := w / 549755813888 % 4194304
theorem c_wSlot {w : Int} (h0 : 0 ≤ w) (h1 : w < 18446744073709551616) : s_cg [.int .u64 w] K σ = K (.agg #[.int .i64 (slS w), .int .i64 (slA w), .int .i64 (slG w), .int .i64 (slV w)]) σ := by
 have b : ∀ (a b c d : Int) (K : Value → Prop), xF (fBuild [(0, 1), (1, 1), (2, 1), (3, 1)] [.int .i64 0, .int .i64 0, .int .i64 0, .int .i64 0] [0, 1, 2, 3]) [.int .i64 a, .int .i64 b, .int .i64 c, .int .i64 d] K =
   K (.agg #[.int .i64 a, .int .i64 b, .int .i64 c, .int .i64 d]) := fun _ _ _ _ K => nr rfl
 simp only [s_cg, w_cg, gAlloc_s, xCs, ruS, Nat.reduceAdd, reduceIte, Int.reduceLT, Int.reduceLE, Int.reduceEq, Int.reduceNeg, Int.reduceAdd, Int.reduceSub]
 rw [and3 h0 h1]
 simp only [ruS, Nat.reduceAdd, reduceIte, Int.reduceLT, Int.reduceLE, Int.reduceEq, Int.reduceNeg, Int.reduceAdd, Int.reduceSub]
 rw [shr3 h0, and20 (by omega) (by omega)]
 simp only [ruS, Nat.reduceAdd, reduceIte, Int.reduceLT, Int.reduceLE, Int.reduceEq, Int.reduceNeg, Int.reduceAdd, Int.reduceSub]
 rw [shr23 h0, and16 (by omega) (by omega)]
 simp only [ruS, Nat.reduceAdd, reduceIte, Int.reduceLT, Int.reduceLE, Int.reduceEq, Int.reduceNeg, Int.reduceAdd, Int.reduceSub]
 rw [shr39 h0, and22 (by omega) (by omega)]
 simp only [ruS, Nat.reduceAdd, reduceIte, Int.reduceLT, Int.reduceLE, Int.reduceEq, Int.reduceNeg, Int.reduceAdd, Int.reduceSub]
 rw [IntWalk.i64_in (w % 8) (by omega), IntWalk.i64_in (w / 8 % 1048576) (by omega), IntWalk.i64_in (w / 8388608 % 65536) (by omega), IntWalk.i64_in (w / 549755813888 % 4194304) (by omega), b]
 simp only [ruS, ruL, ruX, Nat.reduceAdd, reduceIte, Int.reduceLT, Int.reduceLE, Int.reduceEq, Int.reduceNeg, Int.reduceAdd, Int.reduceSub, Nat.reduceLeDiff]
 rfl
theorem slA_bd (w : Int) : 0 ≤ slA w ∧ slA w ≤ 1048575 := by unfold slA; omega
theorem sl_put {st ad ge ve : Int} (h1 : 0 ≤ st ∧ st ≤ 7) (h2 : 0 ≤ ad ∧ ad ≤ 1048575) (h3 : 0 ≤ ge ∧ ge ≤ 65535) (h4 : 0 ≤ ve ∧ ve ≤ 4194303) :
  slS (putSlot st ad ge ve) = st ∧ slA (putSlot st ad ge ve) = ad ∧ slG (putSlot st ad ge ve) = ge ∧ slV (putSlot st ad ge ve) = ve := by
 have e : putSlot st ad ge ve = st + ad * 8 + ge * 8388608 + ve * 549755813888 := by unfold putSlot; rw [cl_in h1.1 h1.2, cl_in h2.1 h2.2, cl_in h3.1 h3.2, cl_in h4.1 h4.2]
 rw [e]; unfold slS slA slG slV; omega
def bI (b : Bool) : Int := if b = true then 1 else 0
def putHead (k s t g : Int) (o : Bool) : Int := cl k 3 + cl s 65535 * 4 + cl t 65535 * 262144 + cl g 65535 * 17179869184 + bI o * 1125899906842624
theorem bI_bd (b : Bool) : 0 ≤ bI b ∧ bI b ≤ 1 := by cases b <;> decide
theorem putHead_in (k s t g : Int) (o : Bool) : 0 ≤ putHead k s t g o ∧ putHead k s t g o < 18446744073709551616 := by have := bI_bd o; unfold putHead cl; omega
def hdK (w : Int) : Int := w % 4
def hdS (w : Int) : Int := w / 4 % 65536
def hdT (w : Int) : Int := w / 262144 % 65536
def hdG (w : Int) : Int := w / 17179869184 % 65536
def hdO (w : Int) : Bool := decide (w / 1125899906842624 % 2 = 1)
theorem hd_put {k s t g : Int} {o : Bool} (h1 : 0 ≤ k ∧ k ≤ 3) (h2 : 0 ≤ s ∧ s ≤ 65535) (h3 : 0 ≤ t ∧ t ≤ 65535) (h4 : 0 ≤ g ∧ g ≤ 65535) :
  hdK (putHead k s t g o) = k ∧ hdS (putHead k s t g o) = s ∧ hdT (putHead k s t g o) = t ∧ hdG (putHead k s t g o) = g ∧ hdO (putHead k s t g o) = o := by
 have e : putHead k s t g o = k + s * 4 + t * 262144 + g * 17179869184 + bI o * 1125899906842624 := by unfold putHead; rw [cl_in h1.1 h1.2, cl_in h2.1 h2.2, cl_in h3.1 h3.2, cl_in h4.1 h4.2]
 have hb := bI_bd o
 rw [e]; unfold hdK hdS hdT hdG hdO
 refine ⟨by omega, by omega, by omega, by omega, ?_⟩
 have : (k + s * 4 + t * 262144 + g * 17179869184 + bI o * 1125899906842624) / 1125899906842624 % 2 = bI o := by omega
 rw [this]; cases o <;> rfl
theorem c_PutHead {k s t g : Int} {o : Bool} : s_cd [.agg #[.int .i64 k, .int .i64 s, .int .i64 t, .int .i64 g, .bool o]] K σ = K (.int .u64 (putHead k s t g o)) σ := by
 simp only [s_cd, w_cd, w_cd_j1, w_cd_j1b, ruS, ruL, ruX, Nat.reduceAdd, reduceIte, Int.reduceLT, Int.reduceLE, Int.reduceEq, Int.reduceNeg, Int.reduceAdd, Int.reduceSub, Nat.reduceLeDiff]
 have h1 := @cl_le k 3
 have h2 := @cl_nn k 3 (by decide)
 have h3 := @cl_le s 65535
 have h4 := @cl_nn s 65535 (by decide)
 have h5 := @cl_le t 65535
 have h6 := @cl_nn t 65535 (by decide)
 have h7 := @cl_le g 65535
 have h8 := @cl_nn g 65535 (by decide)
 rw [c_fit (by decide) (by decide), c_fit (by decide) (by decide), shl2 h4 (by omega), or2 h2 (by omega) h4 (by omega), c_fit (by decide) (by decide), shl18 h6 (by omega), or18 (by omega) (by omega) h6 (by omega),
  c_fit (by decide) (by decide), shl34 h8 (by omega), or34 (by omega) (by omega) h8 (by omega)]
 have o50 : ∀ K : Value → Prop, xF (fBin .or .no) [.int .u64 (cl k 3 + cl s 65535 * 4 + cl t 65535 * 262144 + cl g 65535 * 17179869184), .int .u64 1125899906842624] K = K (.int .u64 (cl k 3 + cl s 65535 * 4 + cl t 65535 * 262144 + cl g 65535 * 17179869184 + 1 * 1125899906842624)) :=
  fun K => or50 (c := 1) (by omega) (by omega) (by decide) (by omega)
 cases o
 ·simp only [xIfB, ruS, ruL, ruX, Nat.reduceAdd, reduceIte, Int.reduceLT, Int.reduceLE, Int.reduceEq, Int.reduceNeg, Int.reduceAdd, Int.reduceSub, Nat.reduceLeDiff]
  unfold putHead bI; simp
 ·simp only [xIfB, o50, ruS, ruL, ruX, Nat.reduceAdd, reduceIte, Int.reduceLT, Int.reduceLE, Int.reduceEq, Int.reduceNeg, Int.reduceAdd, Int.reduceSub, Nat.reduceLeDiff]
  unfold putHead bI; simp
theorem c_wHead {w : Int} (h0 : 0 ≤ w) (h1 : w < 18446744073709551616) : s_b9 [.int .u64 w] K σ = K (.agg #[.int .i64 (hdK w), .int .i64 (hdS w), .int .i64 (hdT w), .int .i64 (hdG w), .bool (hdO w)]) σ := by
 have b : ∀ (a b c d : Int) (e : Bool) (K : Value → Prop), xF (fBuild [(0, 1), (1, 1), (2, 1), (3, 1), (4, 1)] [.int .i64 0, .int .i64 0, .int .i64 0, .int .i64 0, .bool false] [0, 1, 2, 3, 4]) [.int .i64 a, .int .i64 b, .int .i64 c, .int .i64 d, .bool e] K =
   K (.agg #[.int .i64 a, .int .i64 b, .int .i64 c, .int .i64 d, .bool e]) := fun _ _ _ _ _ K => nr rfl
 simp only [s_b9, w_b9, gAlloc_s, xCs, ruS, Nat.reduceAdd, reduceIte, Int.reduceLT, Int.reduceLE, Int.reduceEq, Int.reduceNeg, Int.reduceAdd, Int.reduceSub]
 rw [and2 h0 h1]
 simp only [ruS, Nat.reduceAdd, reduceIte, Int.reduceLT, Int.reduceLE, Int.reduceEq, Int.reduceNeg, Int.reduceAdd, Int.reduceSub]
 rw [shr2 h0, and16 (by omega) (by omega)]
 simp only [ruS, Nat.reduceAdd, reduceIte, Int.reduceLT, Int.reduceLE, Int.reduceEq, Int.reduceNeg, Int.reduceAdd, Int.reduceSub]
 rw [shr18 h0, and16 (by omega) (by omega)]
 simp only [ruS, Nat.reduceAdd, reduceIte, Int.reduceLT, Int.reduceLE, Int.reduceEq, Int.reduceNeg, Int.reduceAdd, Int.reduceSub]
 rw [shr34 h0, and16 (by omega) (by omega)]
 simp only [ruS, Nat.reduceAdd, reduceIte, Int.reduceLT, Int.reduceLE, Int.reduceEq, Int.reduceNeg, Int.reduceAdd, Int.reduceSub]
 rw [shr50 h0, and1 (by omega) (by omega)]
 simp only [ruS, Nat.reduceAdd, reduceIte, Int.reduceLT, Int.reduceLE, Int.reduceEq, Int.reduceNeg, Int.reduceAdd, Int.reduceSub]
 rw [IntWalk.i64_in (w % 4) (by omega), IntWalk.i64_in (w / 4 % 65536) (by omega), IntWalk.i64_in (w / 262144 % 65536) (by omega), IntWalk.i64_in (w / 17179869184 % 65536) (by omega), b]
 simp only [ruS, ruL, ruX, Nat.reduceAdd, reduceIte, Int.reduceLT, Int.reduceLE, Int.reduceEq, Int.reduceNeg, Int.reduceAdd, Int.reduceSub, Nat.reduceLeDiff]
 rfl
def putHandle (s g : Int) : Int := cl s 65535 + cl g 65535 * 65536
theorem c_PutHandle {s g : Int} : s_cc [.agg #[.int .i64 s, .int .i64 g]] K σ = K (.int .u64 (putHandle s g)) σ := by
 simp only [s_cc, w_cc, ruS, ruL, ruX, Nat.reduceAdd, reduceIte, Int.reduceLT, Int.reduceLE, Int.reduceEq, Int.reduceNeg, Int.reduceAdd, Int.reduceSub, Nat.reduceLeDiff]
 have h1 := @cl_le s 65535
 have h2 := @cl_nn s 65535 (by decide)
 have h3 := @cl_le g 65535
 have h4 := @cl_nn g 65535 (by decide)
 rw [c_fit (by decide) (by decide), c_fit (by decide) (by decide), shl16 h4 (by omega), or16 h2 (by omega) h4 (by omega)]
 rfl
theorem c_wHandle {w : Int} (h0 : 0 ≤ w) (h1 : w < 4294967296) (h2 : 65536 ≤ w) : s_b8 [.int .u64 w] K σ = K (.tuple #[.agg #[.int .i64 (w % 65536), .int .i64 (w / 65536)], .bool true]) σ := by
 have b : ∀ (a b : Int) (K : Value → Prop), xF (fBuild [(0, 1), (1, 1)] [.int .i64 0, .int .i64 0] [0, 1]) [.int .i64 a, .int .i64 b] K = K (.agg #[.int .i64 a, .int .i64 b]) := fun _ _ K => nr rfl
 simp only [s_b8, w_b8, w_b8_j1, w_b8_j1b, gAlloc_s, xCs, ruS, Nat.reduceAdd, reduceIte, Int.reduceLT, Int.reduceLE, Int.reduceEq, Int.reduceNeg, Int.reduceAdd, Int.reduceSub]
 have e1 : w / 4294967296 = 0 := by omega
 have e2 : ¬ w / 65536 = 0 := by omega
 rw [shr32 h0, e1]
 simp only [ruS, Nat.reduceAdd, reduceIte, Int.reduceLT, Int.reduceLE, Int.reduceEq, Int.reduceNeg, Int.reduceAdd, Int.reduceSub]
 rw [shr16 h0]
 simp only [e2, ruS, Nat.reduceAdd, reduceIte, Int.reduceLT, Int.reduceLE, Int.reduceEq, Int.reduceNeg, Int.reduceAdd, Int.reduceSub]
 rw [and16 h0 (by omega)]
 simp only [ruS, Nat.reduceAdd, reduceIte, Int.reduceLT, Int.reduceLE, Int.reduceEq, Int.reduceNeg, Int.reduceAdd, Int.reduceSub]
 rw [shr16 h0]
 simp only [ruS, Nat.reduceAdd, reduceIte, Int.reduceLT, Int.reduceLE, Int.reduceEq, Int.reduceNeg, Int.reduceAdd, Int.reduceSub]
 rw [IntWalk.i64_in (w % 65536) (by omega), IntWalk.i64_in (w / 65536) (by omega), b]
 simp only [ruS, ruL, ruX, Nat.reduceAdd, reduceIte, Int.reduceLT, Int.reduceLE, Int.reduceEq, Int.reduceNeg, Int.reduceAdd, Int.reduceSub, Nat.reduceLeDiff]
end Go.Fl
namespace Go.Fl
open Go
set_option linter.unusedVariables false
set_option linter.unusedSimpArgs false
variable {N : Nm} {A B : Ar} {σ : Mem} {K : Value → Mem → Prop} {C : Cf} {who : Int}
structure Al where
 size : Int
 own : Bool
 pc : Int
 tk : Tk
 at' : Int
 gen : Int
 p : Option Nat
 sa : Int
 sc : Int
 g : Option Nat
 oE : Int
 oH : Int
 oV : Int
 oS : Int
def obP (p : Option Nat) : Value := .pointer (p.map fun i => ⟨i, 0, none⟩)
theorem obP_s {i : Nat} : obP (some i) = .pointer (some ⟨i, 0, none⟩) := rfl
def Al.l (a : Al) : List Value := [.int .i64 a.size, .bool a.own, .int .i64 a.pc] ++ a.tk.l ++ [.int .i64 a.at', .int .i64 a.gen, obP a.p, .int .i64 a.sa, .int .i64 a.sc, obP a.g, .int .i64 a.oE, .int .u64 a.oH, .int .i64 a.oV, .int .i64 a.oS]
def Al.new (size : Int) (own : Bool) : Al := ⟨size, own, 0, Tk.new, 0, 0, none, 0, 0, none, 0, 0, 0, 0⟩
theorem c_AllocNew {s : Int} {o : Bool} (hk : ∀ id τ, σ.get id = none → τ.get id = some ⟨(Al.new s o).l, true⟩ → Ext σ τ → K (.pointer (some ⟨id, 0, none⟩)) τ) : s_al [.int .i64 s, .bool o] K σ := by
 have b : ∀ K : Value → Prop, xF (fBuild [(0, 1), (1, 1), (2, 1), (3, 5), (8, 1), (9, 1), (10, 1), (11, 2), (13, 1), (14, 4)] [(.int .i64 0), (.bool false), (.int .i64 0), (.int .i64 0), (.int .u64 0), (.int .i64 0), (.int .i64 0), (.bool false), (.int .i64 0), (.int .i64 0), (.pointer none), (.int .i64 0), (.int .i64 0), (.pointer none), (.int .i64 0), (.int .u64 0), (.int .i64 0), (.int .i64 0)] [0, 1]) [.int .i64 s, .bool o] K =
   K (.agg (Al.new s o).l.toArray) := fun K => nr rfl
 simp only [s_al, w_al, b, ruS, Nat.reduceAdd, reduceIte, Int.reduceLT, Int.reduceLE, Int.reduceEq, Int.reduceNeg, Int.reduceAdd, Int.reduceSub]
 exact hBox_i (cs := (Al.new s o).l) rfl hk
theorem c_AllocDone (hA : isA N A σ) {p : Nat} {a : Al} (hp : σ.get p = some ⟨a.l, true⟩) (hd : p ∉ N.l)
  (hk : K (.agg #[.int .i64 a.oE, .int .u64 a.oH, .int .i64 a.oV, .int .i64 a.oS]) σ) : s_ah [.pointer (some ⟨p, 0, none⟩)] K σ := by
 have gs : ∀ x y z w : Int, gStore 4 [.pointer (some ⟨2, 0, some 0⟩), .agg #[.int .i64 x, .int .u64 y, .int .i64 z, .int .i64 w]] [.int .i64 0, .int .u64 0, .int .i64 0, .int .i64 0] = some [.int .i64 x, .int .u64 y, .int .i64 z, .int .i64 w] := fun _ _ _ _ => rfl
 have l := @hLoad_eq
 have e : hLoad 4 true [.pointer (some ⟨p, 14, none⟩)] = fun K σ' => hLoad 4 true [.pointer (some ⟨p, 14, none⟩)] K σ' := rfl
 simp only [s_ah, w_ah, ruS, ruL, ruE, Nat.reduceAdd, reduceIte, Int.reduceLT, Int.reduceLE, Int.reduceEq, Int.reduceNeg, Int.reduceAdd, Int.reduceSub, Nat.reduceLeDiff, Nat.reduceLT]
 rw [hLoad_eq hp]
 have sb : sub a.l 14 4 true = some (.agg #[.int .i64 a.oE, .int .u64 a.oH, .int .i64 a.oV, .int .i64 a.oS]) := rfl
 rw [sb]
 simp only [gs, sub4, ruS, ruL, ruE, Nat.reduceAdd, reduceIte, Int.reduceLT, Int.reduceLE, Int.reduceEq, Int.reduceNeg, Int.reduceAdd, Int.reduceSub, Nat.reduceLeDiff, Nat.reduceLT]
 exact hk
theorem c_head {p : Nat} {a : Al} {k : Int} (hd : p ∉ N.l) : s_ak [.pointer (some ⟨p, 0, none⟩), .int .i64 k] K (putA N A (σ.set p ⟨a.l, true⟩)) = K (.int .u64 (putHead k a.size a.at' a.gen a.own)) (putA N A (σ.set p ⟨a.l, true⟩)) := by
 have b : ∀ (a b c d : Int) (e : Bool) (K : Value → Prop), xF (fBuild [(0, 1), (1, 1), (2, 1), (3, 1), (4, 1)] [.int .i64 0, .int .i64 0, .int .i64 0, .int .i64 0, .bool false] [0, 1, 2, 3, 4]) [.int .i64 a, .int .i64 b, .int .i64 c, .int .i64 d, .bool e] K =
   K (.agg #[.int .i64 a, .int .i64 b, .int .i64 c, .int .i64 d, .bool e]) := fun _ _ _ _ _ K => nr rfl
 have ld : ∀ (k : Nat) (v : Value) (K : Value → Mem → Prop), sub a.l k 1 false = some v → hLoad 1 false [.pointer (some ⟨p, k, none⟩)] K (putA N A (σ.set p ⟨a.l, true⟩)) = K v (putA N A (σ.set p ⟨a.l, true⟩)) := fun k v K h => by
  rw [hLoad_eq ((putA_get hd).trans (Mem.get_set_same _ _ _)), h, xOs]
 simp only [s_ak, w_ak, ruS, Nat.reduceAdd, reduceIte, Int.reduceLT, Int.reduceLE, Int.reduceEq, Int.reduceNeg, Int.reduceAdd, Int.reduceSub]
 rw [ld 0 (.int .i64 a.size) _ rfl, ld 8 (.int .i64 a.at') _ rfl, ld 9 (.int .i64 a.gen) _ rfl, ld 1 (.bool a.own) _ rfl, b, c_PutHead]
theorem c_end {p : Nat} {a : Al} {x : Int} (hd : p ∉ N.l) : s_aj [.pointer (some ⟨p, 0, none⟩), N.env C who, .int .i64 x] K (putA N A (σ.set p ⟨a.l, true⟩)) =
  K (.tuple #[]) (putA N A (σ.set p ⟨({ a with oE := x, oH := 0, oV := 0, oS := A.s } : Al).l, true⟩)) := by
 have b : ∀ (a c : Int) (K : Value → Prop), xF (fBuild [(0, 1), (1, 1), (2, 1), (3, 1)] [.int .i64 0, .int .u64 0, .int .i64 0, .int .i64 0] [0, 3]) [.int .i64 a, .int .i64 c] K = K (.agg #[.int .i64 a, .int .u64 0, .int .i64 0, .int .i64 c]) := fun _ _ K => nr rfl
 simp only [s_aj, w_aj, ruS, ruL, ruE, Nat.reduceAdd, reduceIte, Int.reduceLT, Int.reduceLE, Int.reduceEq, Int.reduceNeg, Int.reduceAdd, Int.reduceSub, Nat.reduceLeDiff, Nat.reduceLT]
 rw [c_Now, b]
 have := stOa (K := fun _ σ => K (.tuple #[]) σ) (N := N) (A := A) (σ := σ) (p := p) (pre := []) (L := a.l) (post := []) (k := 14) (sz := 4) (c := [.int .i64 x, .int .u64 0, .int .i64 0, .int .i64 A.s]) hd rfl (Nat.le_refl 18) rfl
 refine Eq.trans this ?_
 rfl
theorem ldA {p k sz : Nat} {ag : Bool} {a : Al} {v : Value} (hd : p ∉ N.l) (h : sub a.l k sz ag = some v) : hLoad sz ag [.pointer (some ⟨p, k, none⟩)] K (putA N A (σ.set p ⟨a.l, true⟩)) = K v (putA N A (σ.set p ⟨a.l, true⟩)) := by
 rw [hLoad_eq ((putA_get hd).trans (Mem.get_set_same _ _ _)), h, xOs]
theorem stA {p k : Nat} {a : Al} (a' : Al) {kd : IntKind} {n : Int} (hd : p ∉ N.l) (hk : k + 1 ≤ 18) (e : lay a.l k [.int kd n] = a'.l) : hStore 1 [.pointer (some ⟨p, k, none⟩), .int kd n] K (putA N A (σ.set p ⟨a.l, true⟩)) = K undef (putA N A (σ.set p ⟨a'.l, true⟩)) := by
 have := stOi (N := N) (A := A) (σ := σ) (K := K) (p := p) (pre := []) (L := a.l) (post := []) (k := k) (kd := kd) (n := n) hd hk
 rw [e] at this
 simpa only [List.nil_append, List.append_nil, List.length_nil, Nat.zero_add] using this
theorem c_Al3 (hN : N.ok) (hC : C.ok) (hA : isA N A σ) {p : Nat} {a : Al} (hp : σ.get p = some ⟨a.l, true⟩) (hd : p ∉ N.l) (hn : C.len ≤ A.n) (h : a.pc = 3) (hsc : 0 ≤ a.sc ∧ a.sc < C.C) (hcl : 0 ≤ classOf a.size)
  (hk : ∀ τ, isA N ((A.by who).add (C.chunk a.sc + 1) (roomOf (classOf a.size))) τ → τ.get p = some ⟨({ a with pc := 4 } : Al).l, true⟩ → Keep (p :: N.l) σ τ → K (.bool false) τ) : s_ai [.pointer (some ⟨p, 0, none⟩), N.env C who] K σ := by
 rw [hA.obj hp]
 have hcb := chunk_bd hC hsc.1 hsc.2 hn
 have hT := hC.T; have hS := hC.S; have hC3 := hC.C; have hl := len_bd hC
 have hch : C.chunk C.C = 6 + C.T + 2 * C.S + 3 * C.C := rfl
 have hcj : C.chunk a.sc = 6 + C.T + 2 * C.S + 3 * a.sc := rfl
 have hc3 : classOf a.size ≤ 3 := by unfold classOf; split <;> (try split) <;> (try split) <;> (try split) <;> (try split) <;> omega
 have hr := room_bd hcl hc3
 have e0 : ¬ (3 : Int) = 0 := by decide
 simp only [s_ai, w_ai, w_ai_j1, w_ai_j1b, ruS, ruL, ruE, Nat.reduceAdd, reduceIte, Int.reduceLT, Int.reduceLE, Int.reduceEq, Int.reduceNeg, Int.reduceAdd, Int.reduceSub, Nat.reduceLeDiff, Nat.reduceLT]
 rw [ldA hd (show sub _ 2 1 false = some (.int .i64 a.pc) from rfl)]
 simp only [h, ruS, ruL, ruE, Nat.reduceAdd, reduceIte, Int.reduceLT, Int.reduceLE, Int.reduceEq, Int.reduceNeg, Int.reduceAdd, Int.reduceSub, Nat.reduceLeDiff, Nat.reduceLT]
 rw [ldA hd (show sub _ 12 1 false = some (.int .i64 a.sc) from rfl), c_Chunk hC hsc.1 (by omega)]
 simp only [ruS, ruL, ruE, Nat.reduceAdd, reduceIte, Int.reduceLT, Int.reduceLE, Int.reduceEq, Int.reduceNeg, Int.reduceAdd, Int.reduceSub, Nat.reduceLeDiff, Nat.reduceLT]
 rw [IntWalk.i64_in (C.chunk a.sc + 1) (by omega), ldA hd (show sub _ 0 1 false = some (.int .i64 a.size) from rfl)]
 refine c_Class ?_
 rw [c_Room hcl hc3, c_Add hN (by omega) (by omega), stA { a with pc := 4 } hd (by decide) rfl, show IntKind.u64.wrap (roomOf (classOf a.size)) = roomOf (classOf a.size) from IntWalk.u64_in _ (by omega)]
 exact behind hN hd hk
theorem c_Al4 (hN : N.ok) (hA : isA N A σ) {p : Nat} {a : Al} (hp : σ.get p = some ⟨a.l, true⟩) (hd : p ∉ N.l) (h : a.pc = 4) (hsa : 0 ≤ a.sa ∧ a.sa < A.n)
  (hk : ∀ τ, isA N ((A.by who).store a.sa (putHead 1 a.size a.at' a.gen a.own)) τ → τ.get p = some ⟨({ a with pc := 5 } : Al).l, true⟩ → Keep (p :: N.l) σ τ → K (.bool false) τ) : s_ai [.pointer (some ⟨p, 0, none⟩), N.env C who] K σ := by
 rw [hA.obj hp]
 simp only [s_ai, w_ai, w_ai_j1, w_ai_j1b, ruS, ruL, ruE, Nat.reduceAdd, reduceIte, Int.reduceLT, Int.reduceLE, Int.reduceEq, Int.reduceNeg, Int.reduceAdd, Int.reduceSub, Nat.reduceLeDiff, Nat.reduceLT]
 rw [ldA hd (show sub _ 2 1 false = some (.int .i64 a.pc) from rfl)]
 simp only [h, ruS, ruL, ruE, Nat.reduceAdd, reduceIte, Int.reduceLT, Int.reduceLE, Int.reduceEq, Int.reduceNeg, Int.reduceAdd, Int.reduceSub, Nat.reduceLeDiff, Nat.reduceLT]
 rw [ldA hd (show sub _ 11 1 false = some (.int .i64 a.sa) from rfl), c_head hd, c_Store hN hsa.1 hsa.2, stA { a with pc := 5 } hd (by decide) rfl]
 exact behind hN hd hk
theorem c_Al6 (hN : N.ok) (hA : isA N A σ) {p : Nat} {a : Al} (hp : σ.get p = some ⟨a.l, true⟩) (hd : p ∉ N.l) (h : a.pc = 6) (hsa : 0 ≤ a.sa ∧ a.sa < A.n)
  (hk : ∀ τ, isA N ((A.by who).store a.sa (putHead 2 a.size a.at' a.gen a.own)) τ → τ.get p = some ⟨a.l, true⟩ → Keep (p :: N.l) σ τ → K (.bool true) τ) : s_ai [.pointer (some ⟨p, 0, none⟩), N.env C who] K σ := by
 rw [hA.obj hp]
 simp only [s_ai, w_ai, w_ai_j1, w_ai_j1b, ruS, ruL, ruE, Nat.reduceAdd, reduceIte, Int.reduceLT, Int.reduceLE, Int.reduceEq, Int.reduceNeg, Int.reduceAdd, Int.reduceSub, Nat.reduceLeDiff, Nat.reduceLT]
 rw [ldA hd (show sub _ 2 1 false = some (.int .i64 a.pc) from rfl)]
 simp only [h, ruS, ruL, ruE, Nat.reduceAdd, reduceIte, Int.reduceLT, Int.reduceLE, Int.reduceEq, Int.reduceNeg, Int.reduceAdd, Int.reduceSub, Nat.reduceLeDiff, Nat.reduceLT]
 rw [ldA hd (show sub _ 11 1 false = some (.int .i64 a.sa) from rfl), c_head hd, c_Store hN hsa.1 hsa.2]
 exact behind hN hd hk
theorem c_Al5 (hN : N.ok) (hC : C.ok) (hA : isA N A σ) {p : Nat} {a : Al} (hp : σ.get p = some ⟨a.l, true⟩) (hd : p ∉ N.l) (hn : C.len ≤ A.n) (h : a.pc = 5) (hat : 0 ≤ a.at' ∧ a.at' < C.S)
  (hk : ∀ τ, isA N ((A.by who).store (C.slot a.at') (putSlot 1 a.sa a.gen 0)) τ → τ.get p = some ⟨({ a with pc := 6, oE := 0, oH := putHandle a.at' a.gen, oV := 0, oS := ((A.by who).store (C.slot a.at') (putSlot 1 a.sa a.gen 0)).s } : Al).l, true⟩ → Keep (p :: N.l) σ τ → K (.bool false) τ) :
  s_ai [.pointer (some ⟨p, 0, none⟩), N.env C who] K σ := by
 rw [hA.obj hp]
 have b1 : ∀ (a b c : Int) (K : Value → Prop), xF (fBuild [(0, 1), (1, 1), (2, 1), (3, 1)] [.int .i64 0, .int .i64 0, .int .i64 0, .int .i64 0] [0, 1, 2]) [.int .i64 a, .int .i64 b, .int .i64 c] K = K (.agg #[.int .i64 a, .int .i64 b, .int .i64 c, .int .i64 0]) := fun _ _ _ K => nr rfl
 have b2 : ∀ (a b : Int) (K : Value → Prop), xF (fBuild [(0, 1), (1, 1)] [.int .i64 0, .int .i64 0] [0, 1]) [.int .i64 a, .int .i64 b] K = K (.agg #[.int .i64 a, .int .i64 b]) := fun _ _ K => nr rfl
 have b3 : ∀ (a b : Int) (K : Value → Prop), xF (fBuild [(0, 1), (1, 1), (2, 1), (3, 1)] [.int .i64 0, .int .u64 0, .int .i64 0, .int .i64 0] [1, 3]) [.int .u64 a, .int .i64 b] K = K (.agg #[.int .i64 0, .int .u64 a, .int .i64 0, .int .i64 b]) := fun _ _ K => nr rfl
 have hT := hC.T; have hS := hC.S; have hC3 := hC.C; have hl := len_bd hC
 have hch : C.chunk C.C = 6 + C.T + 2 * C.S + 3 * C.C := rfl
 have hsl : C.slot a.at' = 6 + C.T + 2 * a.at' := rfl
 simp only [s_ai, w_ai, w_ai_j1, w_ai_j1b, ruS, ruL, ruE, Nat.reduceAdd, reduceIte, Int.reduceLT, Int.reduceLE, Int.reduceEq, Int.reduceNeg, Int.reduceAdd, Int.reduceSub, Nat.reduceLeDiff, Nat.reduceLT]
 rw [ldA hd (show sub _ 2 1 false = some (.int .i64 a.pc) from rfl)]
 simp only [h, ruS, ruL, ruE, Nat.reduceAdd, reduceIte, Int.reduceLT, Int.reduceLE, Int.reduceEq, Int.reduceNeg, Int.reduceAdd, Int.reduceSub, Nat.reduceLeDiff, Nat.reduceLT]
 rw [ldA hd (show sub _ 8 1 false = some (.int .i64 a.at') from rfl), c_Slot hC hat.1 (by omega), ldA hd (show sub _ 11 1 false = some (.int .i64 a.sa) from rfl), ldA hd (show sub _ 9 1 false = some (.int .i64 a.gen) from rfl), b1, c_PutSlot,
  c_Store hN (by omega) (by omega), ldA hd (show sub _ 8 1 false = some (.int .i64 a.at') from rfl), ldA hd (show sub _ 9 1 false = some (.int .i64 a.gen) from rfl), b2, c_PutHandle, c_Now, b3]
 generalize hA' : (A.by who).store (C.slot a.at') (putSlot 1 a.sa a.gen 0) = A' at *
 have st : ∀ K : Value → Mem → Prop, hStore 4 [.pointer (some ⟨p, 14, none⟩), .agg #[.int .i64 0, .int .u64 (putHandle a.at' a.gen), .int .i64 0, .int .i64 A'.s]] K (putA N A' (σ.set p ⟨a.l, true⟩)) = K undef (putA N A' (σ.set p ⟨({ a with oE := 0, oH := putHandle a.at' a.gen, oV := 0, oS := A'.s } : Al).l, true⟩)) := by
  intro K
  have := stOa (K := K) (N := N) (A := A') (σ := σ) (p := p) (pre := []) (L := a.l) (post := []) (k := 14) (sz := 4) (c := [.int .i64 0, .int .u64 (putHandle a.at' a.gen), .int .i64 0, .int .i64 A'.s]) hd rfl (Nat.le_refl 18) rfl
  exact this
 rw [st, stA { a with pc := 6, oE := 0, oH := putHandle a.at' a.gen, oV := 0, oS := A'.s } hd (by decide) rfl]
 exact behind hN hd hk
theorem ldB {p k sz : Nat} {ag : Bool} {a : Al} {v : Value} (hp : σ.get p = some ⟨a.l, true⟩) (h : sub a.l k sz ag = some v) : hLoad sz ag [.pointer (some ⟨p, k, none⟩)] K σ = K v σ := by
 rw [hLoad_eq hp, h, xOs]
theorem c_Al7 (hN : N.ok) (hC : C.ok) (hA : isA N A σ) {p q : Nat} {a : Al} {g : Gv} (hp : σ.get p = some ⟨a.l, true⟩) (hq : σ.get q = some ⟨[] ++ g.l ++ [], true⟩) (hd : q ∉ N.l) (hw : ∀ i, 0 ≤ A.w i ∧ A.w i < 18446744073709551616) (hn : C.len ≤ A.n)
  (h : a.pc = 7) (hg : a.g = some q) (h0 : 0 ≤ g.top ∧ g.top < 18446744073709551616) (h1 : 0 ≤ g.slot ∧ g.slot < C.S)
  (hk : ∀ τ, isA N (g.step C who A).2.2 τ → τ.get q = some ⟨[] ++ (g.step C who A).2.1.l ++ [], true⟩ → Keep (q :: N.l) σ τ → K (.bool (g.step C who A).1) τ) : s_ai [.pointer (some ⟨p, 0, none⟩), N.env C who] K σ := by
 simp only [s_ai, w_ai, w_ai_j1, w_ai_j1b, ruS, ruL, ruE, Nat.reduceAdd, reduceIte, Int.reduceLT, Int.reduceLE, Int.reduceEq, Int.reduceNeg, Int.reduceAdd, Int.reduceSub, Nat.reduceLeDiff, Nat.reduceLT]
 rw [ldB hp (show sub _ 2 1 false = some (.int .i64 a.pc) from rfl)]
 simp only [h, ruS, ruL, ruE, Nat.reduceAdd, reduceIte, Int.reduceLT, Int.reduceLE, Int.reduceEq, Int.reduceNeg, Int.reduceAdd, Int.reduceSub, Nat.reduceLeDiff, Nat.reduceLT]
 rw [ldB hp (show sub _ 13 1 false = some (obP a.g) from rfl), hg, obP_s]
 exact c_Give_Step hN hC hA (t := g) (pre := []) (post := []) hq hd hw hn h0 h1 hk
theorem c_Al0 (hN : N.ok) (hC : C.ok) (hA : isA N A σ) {p : Nat} {a : Al} (hp : σ.get p = some ⟨a.l, true⟩) (hd : p ∉ N.l) (hw : ∀ i, 0 ≤ A.w i ∧ A.w i < 18446744073709551616) (hn : C.len ≤ A.n) (h : a.pc = 0)
  (h0 : 0 ≤ a.tk.top ∧ a.tk.top < 18446744073709551616) (h1 : a.tk.pc = 1 → 0 ≤ a.tk.slot ∧ a.tk.slot < C.S) (h2 : 0 ≤ a.tk.next + 1)
  (k0 : classOf a.size < 0 → ∀ τ, isA N A τ → τ.get p = some ⟨({ a with oE := 5, oH := 0, oV := 0, oS := A.s } : Al).l, true⟩ → Keep (p :: N.l) σ τ → K (.bool true) τ)
  (k1 : 0 ≤ classOf a.size → (a.tk.step C who A).1 = false → ∀ τ, isA N (a.tk.step C who A).2.2 τ → τ.get p = some ⟨({ a with tk := (a.tk.step C who A).2.1 } : Al).l, true⟩ → Keep (p :: N.l) σ τ → K (.bool false) τ)
  (k2 : 0 ≤ classOf a.size → (a.tk.step C who A).1 = true → (a.tk.step C who A).2.1.ok = true → ∀ τ, isA N (a.tk.step C who A).2.2 τ → τ.get p = some ⟨({ a with tk := (a.tk.step C who A).2.1, at' := (a.tk.step C who A).2.1.slot, pc := 1 } : Al).l, true⟩ → Keep (p :: N.l) σ τ → K (.bool false) τ)
  (k3 : 0 ≤ classOf a.size → (a.tk.step C who A).1 = true → (a.tk.step C who A).2.1.ok = false → ∀ τ, isA N (a.tk.step C who A).2.2 τ → τ.get p = some ⟨({ a with tk := (a.tk.step C who A).2.1, at' := 0, pc := 1, oE := 7, oH := 0, oV := 0, oS := (a.tk.step C who A).2.2.s } : Al).l, true⟩ → Keep (p :: N.l) σ τ → K (.bool true) τ) :
  s_ai [.pointer (some ⟨p, 0, none⟩), N.env C who] K σ := by
 simp only [s_ai, w_ai, w_ai_j1, w_ai_j1b, ruS, ruL, ruE, Nat.reduceAdd, reduceIte, Int.reduceLT, Int.reduceLE, Int.reduceEq, Int.reduceNeg, Int.reduceAdd, Int.reduceSub, Nat.reduceLeDiff, Nat.reduceLT]
 rw [ldB hp (show sub _ 2 1 false = some (.int .i64 a.pc) from rfl)]
 simp only [h, ruS, ruL, ruE, Nat.reduceAdd, reduceIte, Int.reduceLT, Int.reduceLE, Int.reduceEq, Int.reduceNeg, Int.reduceAdd, Int.reduceSub, Nat.reduceLeDiff, Nat.reduceLT]
 rw [ldB hp (show sub _ 0 1 false = some (.int .i64 a.size) from rfl)]
 refine c_Class ?_
 by_cases c : classOf a.size < 0
 ·simp only [c, ruS, ruL, ruE, Nat.reduceAdd, reduceIte, Int.reduceLT, Int.reduceLE, Int.reduceEq, Int.reduceNeg, Int.reduceAdd, Int.reduceSub, Nat.reduceLeDiff, Nat.reduceLT]
  rw [hA.obj hp, c_end hd]
  exact behind hN hd (k0 c)
 ·simp only [c, ruS, ruL, ruE, Nat.reduceAdd, reduceIte, Int.reduceLT, Int.reduceLE, Int.reduceEq, Int.reduceNeg, Int.reduceAdd, Int.reduceSub, Nat.reduceLeDiff, Nat.reduceLT]
  have c' : 0 ≤ classOf a.size := by omega
  refine c_Take_Step hN hC hA (t := a.tk) (pre := [.int .i64 a.size, .bool a.own, .int .i64 a.pc]) (post := [.int .i64 a.at', .int .i64 a.gen, obP a.p, .int .i64 a.sa, .int .i64 a.sc, obP a.g, .int .i64 a.oE, .int .u64 a.oH, .int .i64 a.oV, .int .i64 a.oS]) hp hd hw hn h0 h1 h2 fun τ hA' hg' hK => ?_
  replace k1 := k1 c'
  replace k2 := k2 c'
  replace k3 := k3 c'
  generalize a.tk.step C who A = r at *
  obtain ⟨d, t', A'⟩ := r
  dsimp only at *
  have hg2 : τ.get p = some ⟨({ a with tk := t' } : Al).l, true⟩ := hg'
  cases d with
  | false => simp only [ruS, ruL, ruE, Nat.reduceAdd, reduceIte, Int.reduceLT, Int.reduceLE, Int.reduceEq, Int.reduceNeg, Int.reduceAdd, Int.reduceSub, Nat.reduceLeDiff, Nat.reduceLT]; exact k1 rfl τ hA' hg2 hK
  | true =>
   simp only [ruS, ruL, ruE, Nat.reduceAdd, reduceIte, Int.reduceLT, Int.reduceLE, Int.reduceEq, Int.reduceNeg, Int.reduceAdd, Int.reduceSub, Nat.reduceLeDiff, Nat.reduceLT]
   refine c_Take_Slot hA' (pre := [.int .i64 a.size, .bool a.own, .int .i64 a.pc]) (post := [.int .i64 a.at', .int .i64 a.gen, obP a.p, .int .i64 a.sa, .int .i64 a.sc, obP a.g, .int .i64 a.oE, .int .u64 a.oH, .int .i64 a.oV, .int .i64 a.oS]) hg' hd ?_
   simp only [ruS, ruL, ruE, Nat.reduceAdd, reduceIte, Int.reduceLT, Int.reduceLE, Int.reduceEq, Int.reduceNeg, Int.reduceAdd, Int.reduceSub, Nat.reduceLeDiff, Nat.reduceLT]
   rw [hA'.obj hg2, stA { a with tk := t', at' := if t'.ok = true then t'.slot else 0 } hd (by decide) rfl, stA { a with tk := t', at' := if t'.ok = true then t'.slot else 0, pc := 1 } hd (by decide) rfl]
   cases o : t'.ok with
   | true =>
    simp only [o, ruS, ruL, ruE, Nat.reduceAdd, reduceIte, Int.reduceLT, Int.reduceLE, Int.reduceEq, Int.reduceNeg, Int.reduceAdd, Int.reduceSub, Nat.reduceLeDiff, Nat.reduceLT]
    exact behind hN hd fun υ u1 u2 u3 => k2 rfl o υ u1 (by simpa [o] using u2) (hK.trans u3)
   | false =>
    simp only [o, ruS, ruL, ruE, Nat.reduceAdd, reduceIte, Int.reduceLT, Int.reduceLE, Int.reduceEq, Int.reduceNeg, Int.reduceAdd, Int.reduceSub, Nat.reduceLeDiff, Nat.reduceLT]
    rw [c_end hd]
    exact behind hN hd fun υ u1 u2 u3 => k3 rfl o υ u1 (by simpa [o] using u2) (hK.trans u3)
theorem stAp {p k : Nat} {a : Al} (a' : Al) {b : Option Addr} (hd : p ∉ N.l) (hk : k + 1 ≤ 18) (e : lay a.l k [.pointer b] = a'.l) : hStore 1 [.pointer (some ⟨p, k, none⟩), .pointer b] K (putA N A (σ.set p ⟨a.l, true⟩)) = K undef (putA N A (σ.set p ⟨a'.l, true⟩)) := by
 have := stOp (N := N) (A := A) (σ := σ) (K := K) (p := p) (pre := []) (L := a.l) (post := []) (k := k) (b := b) hd hk
 rw [e] at this
 simpa only [List.nil_append, List.append_nil, List.length_nil, Nat.zero_add] using this
theorem c_Al1 (hN : N.ok) (hC : C.ok) (hA : isA N A σ) {p : Nat} {a : Al} (hp : σ.get p = some ⟨a.l, true⟩) (hd : p ∉ N.l) (hw : ∀ i, 0 ≤ A.w i ∧ A.w i < 18446744073709551616) (hn : C.len ≤ A.n) (h : a.pc = 1) (hat : 0 ≤ a.at' ∧ a.at' < C.S) (hp0 : σ.get p = some ⟨a.l, true⟩)
  (hk : ∀ q τ, σ.get q = none → q ≠ p → isA N ((A.by who).load (C.slot a.at')) τ → τ.get p = some ⟨({ a with gen := slG (A.w (C.slot a.at')), pc := 2, p := some q } : Al).l, true⟩ → τ.get q = some ⟨(Pl.new (classOf a.size)).l, true⟩ → Keep (p :: N.l) σ τ → K (.bool false) τ) :
  s_ai [.pointer (some ⟨p, 0, none⟩), N.env C who] K σ := by
 have hT := hC.T; have hS := hC.S; have hC3 := hC.C; have hl := len_bd hC
 have hch : C.chunk C.C = 6 + C.T + 2 * C.S + 3 * C.C := rfl
 have hsl : C.slot a.at' = 6 + C.T + 2 * a.at' := rfl
 have hsd : ∀ (w : Int) (K : Value → Prop), xF (fFldV 2 1 false) [.agg #[.int .i64 (slS w), .int .i64 (slA w), .int .i64 (slG w), .int .i64 (slV w)]] K = K (.int .i64 (slG w)) := fun w K => nr rfl
 rw [hA.obj hp]
 simp only [s_ai, w_ai, w_ai_j1, w_ai_j1b, ruS, ruL, ruE, Nat.reduceAdd, reduceIte, Int.reduceLT, Int.reduceLE, Int.reduceEq, Int.reduceNeg, Int.reduceAdd, Int.reduceSub, Nat.reduceLeDiff, Nat.reduceLT]
 rw [ldA hd (show sub _ 2 1 false = some (.int .i64 a.pc) from rfl)]
 simp only [h, ruS, ruL, ruE, Nat.reduceAdd, reduceIte, Int.reduceLT, Int.reduceLE, Int.reduceEq, Int.reduceNeg, Int.reduceAdd, Int.reduceSub, Nat.reduceLeDiff, Nat.reduceLT]
 rw [ldA hd (show sub _ 8 1 false = some (.int .i64 a.at') from rfl), c_Slot hC hat.1 (by omega), c_Load hN (by omega) (by omega), c_wSlot (hw _).1 (hw _).2]
 simp only [subE2, List.toList_toArray, ruS, ruL, ruE, Nat.reduceAdd, reduceIte, Int.reduceLT, Int.reduceLE, Int.reduceEq, Int.reduceNeg, Int.reduceAdd, Int.reduceSub, Nat.reduceLeDiff, Nat.reduceLT]
 rw [stA { a with gen := slG (A.w (C.slot a.at')) } hd (by decide) rfl, stA { a with gen := slG (A.w (C.slot a.at')), pc := 2 } hd (by decide) rfl, ldA (a := { a with gen := slG (A.w (C.slot a.at')), pc := 2 }) hd (show sub _ 0 1 false = some (.int .i64 a.size) from rfl)]
 refine c_Class ?_
 refine c_PlaceNew fun q τ hq gq x => ?_
 have isU : isA N ((A.by who).load (C.slot a.at')) (putA N ((A.by who).load (C.slot a.at')) (σ.set p ⟨({ a with gen := slG (A.w (C.slot a.at')), pc := 2 } : Al).l, true⟩)) := isA_put hN
 have gU : (putA N ((A.by who).load (C.slot a.at')) (σ.set p ⟨({ a with gen := slG (A.w (C.slot a.at')), pc := 2 } : Al).l, true⟩)).get p = some ⟨({ a with gen := slG (A.w (C.slot a.at')), pc := 2 } : Al).l, true⟩ := (putA_get hd).trans (Mem.get_set_same _ _ _)
 have kU : Keep (p :: N.l) σ (putA N ((A.by who).load (C.slot a.at')) (σ.set p ⟨({ a with gen := slG (A.w (C.slot a.at')), pc := 2 } : Al).l, true⟩)) := fun i b hi hn => by
  simp only [List.mem_cons, not_or] at hn
  rw [putA_get hn.2, Mem.get_set_ne _ _ hn.1]; exact hi
 generalize putA N ((A.by who).load (C.slot a.at')) (σ.set p ⟨({ a with gen := slG (A.w (C.slot a.at')), pc := 2 } : Al).l, true⟩) = υ at *
 have qp : q ≠ p := by rintro rfl; rw [gU] at hq; cases hq
 have qn := isU.new hq
 have hqs : σ.get q = none := by
  cases e : σ.get q with
  | none => rfl
  | some b => rw [kU q b e (by simp only [List.mem_cons, not_or]; exact ⟨qp, qn⟩)] at hq; cases hq
 have isT := isU.ext x
 have gT := x _ _ gU
 rw [isT.obj gT, stAp { a with gen := slG (A.w (C.slot a.at')), pc := 2, p := some q } hd (by decide) rfl]
 refine behind hN hd fun ω o1 o2 o3 => hk q ω hqs qp o1 o2 ?_ ?_
 ·exact o3 q _ gq (by simp only [List.mem_cons, not_or]; exact ⟨qp, qn⟩)
 ·exact (kU.trans x.keep).trans o3
theorem c_Al2 (hN : N.ok) (hC : C.ok) (hA : isA N A σ) {p q : Nat} {a : Al} {t : Pl} (hp : σ.get p = some ⟨a.l, true⟩) (hd : p ∉ N.l) (hq : σ.get q = some ⟨[] ++ t.l ++ [], true⟩) (hqd : q ∉ N.l) (hqp : q ≠ p)
  (hw : ∀ i, 0 ≤ A.w i ∧ A.w i < 18446744073709551616) (hn : C.len ≤ A.n) (h : a.pc = 2) (ha : a.p = some q) (hf : t.fit C) (ho : A.w (2 + t.cls) ≤ C.C)
  (k0 : (t.step C who A).1 = false → ∀ τ, isA N (t.step C who A).2.2 τ → τ.get p = some ⟨a.l, true⟩ → τ.get q = some ⟨[] ++ (t.step C who A).2.1.l ++ [], true⟩ → Keep (q :: p :: N.l) σ τ → K (.bool false) τ)
  (k1 : (t.step C who A).1 = true → (t.step C who A).2.1.ok = true → ∀ τ, isA N (t.step C who A).2.2 τ → τ.get p = some ⟨({ a with sa := (t.step C who A).2.1.sa, sc := (t.step C who A).2.1.sc, pc := 3 } : Al).l, true⟩ → Keep (q :: p :: N.l) σ τ → K (.bool false) τ)
  (k2 : (t.step C who A).1 = true → (t.step C who A).2.1.ok = false → ∀ id τ, σ.get id = none → id ∉ N.l → id ≠ p → isA N (t.step C who A).2.2 τ →
   τ.get p = some ⟨({ a with sa := 0, sc := 0, pc := 7, oE := 6, oH := 0, oV := 0, oS := (t.step C who A).2.2.s, g := some id } : Al).l, true⟩ → τ.get id = some ⟨(Gv.mk 0 a.at' 0).l, true⟩ → Keep (q :: p :: N.l) σ τ → K (.bool false) τ) :
  s_ai [.pointer (some ⟨p, 0, none⟩), N.env C who] K σ := by
 have gs : ∀ x y : Int, gStore 2 [.pointer (some ⟨7, 0, some 0⟩), .agg #[.int .i64 x, .int .i64 y]] [.int .i64 0, .int .i64 0] = some [.int .i64 x, .int .i64 y] := fun _ _ => rfl
 have sb2 : ∀ x y : Value, sub [x, y] 0 2 true = some (.agg #[x, y]) := fun _ _ => rfl
 simp only [s_ai, w_ai, w_ai_j1, w_ai_j1b, ruS, ruL, ruE, Nat.reduceAdd, reduceIte, Int.reduceLT, Int.reduceLE, Int.reduceEq, Int.reduceNeg, Int.reduceAdd, Int.reduceSub, Nat.reduceLeDiff, Nat.reduceLT]
 rw [ldB hp (show sub _ 2 1 false = some (.int .i64 a.pc) from rfl)]
 simp only [h, ruS, ruL, ruE, Nat.reduceAdd, reduceIte, Int.reduceLT, Int.reduceLE, Int.reduceEq, Int.reduceNeg, Int.reduceAdd, Int.reduceSub, Nat.reduceLeDiff, Nat.reduceLT]
 rw [ldB hp (show sub _ 10 1 false = some (obP a.p) from rfl), ha, obP_s]
 refine c_Place_Step hN hC hA (t := t) (pre := []) (post := []) hq hqd hw hn hf ho fun τ hA' hq' hK => ?_
 generalize t.step C who A = r at *
 obtain ⟨d, t', A'⟩ := r
 dsimp only at *
 have hp' : τ.get p = some ⟨a.l, true⟩ := hK.get hp (by simp only [List.mem_cons, not_or]; exact ⟨fun e => hqp e.symm, hd⟩)
 have hK2 : Keep (q :: p :: N.l) σ τ := hK.mono (by intro i hi; rcases List.mem_cons.1 hi with rfl | hi <;> simp [*])
 have hpL : ∀ i ∈ p :: N.l, i ∈ q :: p :: N.l := fun i hi => List.mem_cons_of_mem _ hi
 cases d with
 | false => simp only [ruS, ruL, ruE, Nat.reduceAdd, reduceIte, Int.reduceLT, Int.reduceLE, Int.reduceEq, Int.reduceNeg, Int.reduceAdd, Int.reduceSub, Nat.reduceLeDiff, Nat.reduceLT]; exact k0 rfl τ hA' hp' hq' hK2
 | true =>
  simp only [ruS, ruL, ruE, Nat.reduceAdd, reduceIte, Int.reduceLT, Int.reduceLE, Int.reduceEq, Int.reduceNeg, Int.reduceAdd, Int.reduceSub, Nat.reduceLeDiff, Nat.reduceLT]
  rw [ldB hp' (show sub _ 10 1 false = some (obP a.p) from rfl), ha, obP_s]
  refine c_Place_Spot hA' (pre := []) (post := []) hq' hqd ?_
  have st : ∀ (x y : Int) (K : Value → Mem → Prop), hStore 2 [.pointer (some ⟨p, 11, none⟩), .agg #[.int .i64 x, .int .i64 y]] K (putA N A' (τ.set p ⟨a.l, true⟩)) = K undef (putA N A' (τ.set p ⟨({ a with sa := x, sc := y } : Al).l, true⟩)) := by
   intro x y K
   have := stOa (K := K) (N := N) (A := A') (σ := τ) (p := p) (pre := []) (L := a.l) (post := []) (k := 11) (sz := 2) (c := [.int .i64 x, .int .i64 y]) hd rfl (by show 13 ≤ 18; decide) rfl
   exact this
  rw [hA'.obj hp']
  cases o : t'.ok with
  | true =>
   simp only [o, gs, sb2, ruS, ruL, ruE, Nat.reduceAdd, reduceIte, Int.reduceLT, Int.reduceLE, Int.reduceEq, Int.reduceNeg, Int.reduceAdd, Int.reduceSub, Nat.reduceLeDiff, Nat.reduceLT]
   rw [st, stA { a with sa := t'.sa, sc := t'.sc, pc := 3 } hd (by decide) rfl]
   exact behind hN hd fun υ u1 u2 u3 => k1 rfl o υ u1 u2 (hK2.trans (u3.mono hpL))
  | false =>
   simp only [o, gs, sb2, ruS, ruL, ruE, Nat.reduceAdd, reduceIte, Int.reduceLT, Int.reduceLE, Int.reduceEq, Int.reduceNeg, Int.reduceAdd, Int.reduceSub, Nat.reduceLeDiff, Nat.reduceLT]
   rw [st, stA { a with sa := 0, sc := 0, pc := 3 } hd (by decide) rfl, c_end hd]
   rw [ldA (a := { a with sa := 0, sc := 0, pc := 3, oE := 6, oH := 0, oV := 0, oS := A'.s }) hd (show sub _ 8 1 false = some (.int .i64 a.at') from rfl)]
   refine behind (K := fun _ σ => s_b3 [.int .i64 a.at'] _ σ) (v := undef) hN hd fun υ u1 u2 u3 => ?_
   refine c_NewGive fun id ω hid gid x => ?_
   have hx1 := u1.ext x
   have hx2 := x _ _ u2
   have ip : id ≠ p := by rintro rfl; rw [u2] at hid; cases hid
   have inn := u1.new hid
   rw [hx1.obj hx2, stAp { a with sa := 0, sc := 0, pc := 3, oE := 6, oH := 0, oV := 0, oS := A'.s, g := some id } hd (by decide) rfl, stA { a with sa := 0, sc := 0, pc := 7, oE := 6, oH := 0, oV := 0, oS := A'.s, g := some id } hd (by decide) rfl]
   have kall : Keep (q :: p :: N.l) σ υ := hK2.trans (u3.mono hpL)
   have iq : id ≠ q := by
    rintro rfl
    rw [u3 _ _ hq' (by simp only [List.mem_cons, not_or]; exact ⟨hqp, hqd⟩)] at hid; cases hid
   have ids : σ.get id = none := by
    cases e : σ.get id with
    | none => rfl
    | some b => rw [kall id b e (by simp only [List.mem_cons, not_or]; exact ⟨iq, ip, inn⟩)] at hid; cases hid
   refine behind hN hd fun ρ r1 r2 r3 => k2 rfl o id ρ ids inn ip r1 r2 ?_ ((kall.trans x.keep).trans (r3.mono hpL))
   exact r3 id _ gid (by simp only [List.mem_cons, not_or]; exact ⟨ip, inn⟩)
end Go.Fl
namespace Go.Fl
open Go
set_option linter.unusedVariables false
set_option linter.unusedSimpArgs false
variable {N : Nm} {A B : Ar} {σ : Mem} {K : Value → Mem → Prop} {C : Cf} {who : Int}
structure Am where
 a : Al
 t : Pl
 g : Gv
def Am.new (s : Int) (o : Bool) : Am := ⟨Al.new s o, Pl.new 0, ⟨0, 0, 0⟩⟩
def Am.out (m : Am) (A : Ar) (e : Int) : Al := { m.a with oE := e, oH := 0, oV := 0, oS := A.s }
def Am.step (C : Cf) (who : Int) (A : Ar) (m : Am) : Bool × Am × Ar :=
 if m.a.pc = 0 then
  if classOf m.a.size < 0 then (true, { m with a := m.out A 5 }, A) else
  let r := m.a.tk.step C who A
  if r.1 = false then (false, { m with a := { m.a with tk := r.2.1 } }, r.2.2)
  else if r.2.1.ok = true then (false, { m with a := { m.a with tk := r.2.1, at' := r.2.1.slot, pc := 1 } }, r.2.2)
  else (true, { m with a := { m.a with tk := r.2.1, at' := 0, pc := 1, oE := 7, oH := 0, oV := 0, oS := r.2.2.s } }, r.2.2)
 else if m.a.pc = 1 then
  (false, { m with a := { m.a with gen := slG (A.w (C.slot m.a.at')), pc := 2 }, t := Pl.new (classOf m.a.size) }, (A.by who).load (C.slot m.a.at'))
 else if m.a.pc = 2 then
  let r := m.t.step C who A
  if r.1 = false then (false, { m with t := r.2.1 }, r.2.2)
  else if r.2.1.ok = true then (false, { m with a := { m.a with sa := r.2.1.sa, sc := r.2.1.sc, pc := 3 }, t := r.2.1 }, r.2.2)
  else (false, { m with a := { m.a with sa := 0, sc := 0, pc := 7, oE := 6, oH := 0, oV := 0, oS := r.2.2.s }, t := r.2.1, g := ⟨0, m.a.at', 0⟩ }, r.2.2)
 else if m.a.pc = 3 then (false, { m with a := { m.a with pc := 4 } }, (A.by who).add (C.chunk m.a.sc + 1) (roomOf (classOf m.a.size)))
 else if m.a.pc = 4 then (false, { m with a := { m.a with pc := 5 } }, (A.by who).store m.a.sa (putHead 1 m.a.size m.a.at' m.a.gen m.a.own))
 else if m.a.pc = 5 then
  let A' := (A.by who).store (C.slot m.a.at') (putSlot 1 m.a.sa m.a.gen 0)
  (false, { m with a := { m.a with pc := 6, oE := 0, oH := putHandle m.a.at' m.a.gen, oV := 0, oS := A'.s } }, A')
 else if m.a.pc = 6 then (true, m, (A.by who).store m.a.sa (putHead 2 m.a.size m.a.at' m.a.gen m.a.own))
 else let r := m.g.step C who A; (r.1, { m with g := r.2.1 }, r.2.2)
structure Am.fit (C : Cf) (A : Ar) (m : Am) : Prop where
 pc : 0 ≤ m.a.pc ∧ m.a.pc ≤ 7
 tk : m.a.pc = 0 → (0 ≤ m.a.tk.top ∧ m.a.tk.top < 18446744073709551616) ∧ (m.a.tk.pc = 1 → 0 ≤ m.a.tk.slot ∧ m.a.tk.slot < C.S) ∧ 0 ≤ m.a.tk.next + 1
 cl : m.a.pc ≠ 0 → 0 ≤ classOf m.a.size
 at' : m.a.pc ≠ 0 → 0 ≤ m.a.at' ∧ m.a.at' < C.S
 pl : m.a.pc = 2 → m.t.fit C ∧ A.w (2 + m.t.cls) ≤ C.C
 spot : 3 ≤ m.a.pc → m.a.pc ≤ 6 → (0 ≤ m.a.sc ∧ m.a.sc < C.C) ∧ 0 ≤ m.a.sa ∧ m.a.sa < A.n
 gv : m.a.pc = 7 → (0 ≤ m.g.top ∧ m.g.top < 18446744073709551616) ∧ 0 ≤ m.g.slot ∧ m.g.slot < C.S
structure Ob (N : Nm) (p : Nat) (O : List Nat) (m : Am) (τ : Mem) : Prop where
 obj : ∃ x y, τ.get p = some ⟨({ m.a with p := x, g := y } : Al).l, true⟩ ∧ (m.a.pc = 2 → ∃ q, x = some q ∧ q ∈ O ∧ q ≠ p ∧ τ.get q = some ⟨[] ++ m.t.l ++ [], true⟩) ∧
  (m.a.pc = 7 → ∃ q, y = some q ∧ q ∈ O ∧ q ≠ p ∧ τ.get q = some ⟨[] ++ m.g.l ++ [], true⟩)
 own : ∀ i ∈ O, i ∉ N.l
 p : p ∈ O
theorem c_Alloc_Step (hN : N.ok) (hC : C.ok) (hA : isA N A σ) {p : Nat} {O : List Nat} {m : Am} (hO : Ob N p O m σ) (hw : ∀ i, 0 ≤ A.w i ∧ A.w i < 18446744073709551616) (hn : C.len ≤ A.n) (hf : m.fit C A)
  (hk : ∀ O' τ, (∀ i ∈ O', i ∈ O ∨ σ.get i = none) → isA N (m.step C who A).2.2 τ → Ob N p O' (m.step C who A).2.1 τ → Keep (O ++ N.l) σ τ → K (.bool (m.step C who A).1) τ) : s_ai [.pointer (some ⟨p, 0, none⟩), N.env C who] K σ := by
 obtain ⟨⟨x, y, hp, h2, h7⟩, own, pO⟩ := hO
 have hd := own p pO
 have k1 : ∀ {τ : Mem}, Keep (p :: N.l) σ τ → Keep (O ++ N.l) σ τ := fun k => k.mono fun i hi => by
  rcases List.mem_cons.1 hi with rfl | hi
  ·exact List.mem_append_left _ pO
  ·exact List.mem_append_right _ hi
 have same : ∀ i ∈ O, i ∈ O ∨ σ.get i = none := fun i hi => .inl hi
 have hpc := hf.pc
 unfold Am.step at hk
 by_cases c0 : m.a.pc = 0
 ·obtain ⟨t1, t2, t3⟩ := hf.tk c0
  simp only [if_pos c0] at hk
  refine c_Al0 hN hC hA (a := { m.a with p := x, g := y }) hp hd hw hn c0 t1 t2 t3 (fun c τ u1 u2 u3 => ?_) (fun c d τ u1 u2 u3 => ?_) (fun c d o τ u1 u2 u3 => ?_) (fun c d o τ u1 u2 u3 => ?_)
  ·rw [if_pos c] at hk
   exact hk O τ same u1 ⟨⟨x, y, u2, fun q => by dsimp only [Am.out] at q; omega, fun q => by dsimp only [Am.out] at q; omega⟩, own, pO⟩ (k1 u3)
  ·simp only [if_neg (show ¬ classOf m.a.size < 0 from Int.not_lt.2 c), if_pos d] at hk
   exact hk O τ same u1 ⟨⟨x, y, u2, fun q => by dsimp only at q; omega, fun q => by dsimp only at q; omega⟩, own, pO⟩ (k1 u3)
  ·simp only [if_neg (show ¬ classOf m.a.size < 0 from Int.not_lt.2 c), d, o, Bool.true_eq_false, if_false, if_true] at hk
   exact hk O τ same u1 ⟨⟨x, y, u2, fun q => by dsimp only at q; omega, fun q => by dsimp only at q; omega⟩, own, pO⟩ (k1 u3)
  ·simp only [if_neg (show ¬ classOf m.a.size < 0 from Int.not_lt.2 c), d, o, Bool.true_eq_false, Bool.false_eq_true, if_false, if_true] at hk
   exact hk O τ same u1 ⟨⟨x, y, u2, fun q => by dsimp only at q; omega, fun q => by dsimp only at q; omega⟩, own, pO⟩ (k1 u3)
 have hcl := hf.cl c0
 have hat := hf.at' c0
 by_cases c1 : m.a.pc = 1
 ·simp only [if_neg c0, if_pos c1] at hk
  refine c_Al1 hN hC hA (a := { m.a with p := x, g := y }) hp hd hw hn c1 hat hp fun q τ q1 q2 u1 u2 u3 u4 => ?_
  have hqn := hA.new q1
  refine hk (q :: O) τ (fun i hi => by rcases List.mem_cons.1 hi with rfl | hi; exact .inr q1; exact .inl hi) u1 ⟨⟨some q, y, u2, fun _ => ⟨q, rfl, List.mem_cons_self .., q2, by simpa using u3⟩, fun e => by dsimp only at e; omega⟩, fun i hi => ?_, List.mem_cons_of_mem _ pO⟩ (k1 u4)
  rcases List.mem_cons.1 hi with rfl | hi
  ·exact hqn
  ·exact own i hi
 by_cases c2 : m.a.pc = 2
 ·obtain ⟨q, rfl, qO, qp, gq⟩ := h2 c2
  obtain ⟨f1, f2⟩ := hf.pl c2
  have k2 : ∀ {τ : Mem}, Keep (q :: p :: N.l) σ τ → Keep (O ++ N.l) σ τ := fun k => k.mono fun i hi => by
   rcases List.mem_cons.1 hi with rfl | hi
   ·exact List.mem_append_left _ qO
   ·rcases List.mem_cons.1 hi with rfl | hi
    ·exact List.mem_append_left _ pO
    ·exact List.mem_append_right _ hi
  simp only [if_neg c0, if_neg c1, if_pos c2] at hk
  refine c_Al2 hN hC hA (a := { m.a with p := some q, g := y }) (t := m.t) hp hd gq (own q qO) qp hw hn c2 rfl f1 f2 (fun d τ u1 u2 u3 u4 => ?_) (fun d o τ u1 u2 u3 => ?_) (fun d o id τ i1 i2 i3 u1 u2 u3 u4 => ?_)
  ·simp only [if_pos d] at hk
   exact hk O τ same u1 ⟨⟨some q, y, u2, fun _ => ⟨q, rfl, qO, qp, u3⟩, fun e => by dsimp only at e; omega⟩, own, pO⟩ (k2 u4)
  ·simp only [d, o, Bool.true_eq_false, if_false, if_true] at hk
   exact hk O τ same u1 ⟨⟨some q, y, u2, fun e => by dsimp only at e; omega, fun e => by dsimp only at e; omega⟩, own, pO⟩ (k2 u3)
  ·simp only [d, o, Bool.true_eq_false, Bool.false_eq_true, if_false] at hk
   refine hk (id :: O) τ (fun i hi => by rcases List.mem_cons.1 hi with rfl | hi; exact .inr i1; exact .inl hi) u1 ⟨⟨some q, some id, u2, fun e => by dsimp only at e; omega, fun _ => ⟨id, rfl, List.mem_cons_self .., i3, by simpa using u3⟩⟩, fun i hi => ?_, List.mem_cons_of_mem _ pO⟩ (k2 u4)
   rcases List.mem_cons.1 hi with rfl | hi
   ·exact i2
   ·exact own i hi
 by_cases c3 : m.a.pc = 3
 ·obtain ⟨s1, s2⟩ := hf.spot (by omega) (by omega)
  simp only [if_neg c0, if_neg c1, if_neg c2, if_pos c3] at hk
  exact c_Al3 hN hC hA (a := { m.a with p := x, g := y }) hp hd hn c3 s1 hcl fun τ u1 u2 u3 => hk O τ same u1 ⟨⟨x, y, u2, fun e => by dsimp only at e; omega, fun e => by dsimp only at e; omega⟩, own, pO⟩ (k1 u3)
 by_cases c4 : m.a.pc = 4
 ·obtain ⟨s1, s2⟩ := hf.spot (by omega) (by omega)
  simp only [if_neg c0, if_neg c1, if_neg c2, if_neg c3, if_pos c4] at hk
  exact c_Al4 hN hA (a := { m.a with p := x, g := y }) hp hd c4 s2 fun τ u1 u2 u3 => hk O τ same u1 ⟨⟨x, y, u2, fun e => by dsimp only at e; omega, fun e => by dsimp only at e; omega⟩, own, pO⟩ (k1 u3)
 by_cases c5 : m.a.pc = 5
 ·simp only [if_neg c0, if_neg c1, if_neg c2, if_neg c3, if_neg c4, if_pos c5] at hk
  exact c_Al5 hN hC hA (a := { m.a with p := x, g := y }) hp hd hn c5 hat fun τ u1 u2 u3 => hk O τ same u1 ⟨⟨x, y, u2, fun e => by dsimp only at e; omega, fun e => by dsimp only at e; omega⟩, own, pO⟩ (k1 u3)
 by_cases c6 : m.a.pc = 6
 ·obtain ⟨s1, s2⟩ := hf.spot (by omega) (by omega)
  simp only [if_neg c0, if_neg c1, if_neg c2, if_neg c3, if_neg c4, if_neg c5, if_pos c6] at hk
  exact c_Al6 hN hA (a := { m.a with p := x, g := y }) hp hd c6 s2 fun τ u1 u2 u3 => hk O τ same u1 ⟨⟨x, y, u2, fun e => by omega, fun e => by omega⟩, own, pO⟩ (k1 u3)
 have c7 : m.a.pc = 7 := by omega
 obtain ⟨q, rfl, qO, qp, gq⟩ := h7 c7
 obtain ⟨f1, f2⟩ := hf.gv c7
 simp only [if_neg c0, if_neg c1, if_neg c2, if_neg c3, if_neg c4, if_neg c5, if_neg c6] at hk
 refine c_Al7 hN hC hA (a := { m.a with p := x, g := some q }) (g := m.g) hp gq (own q qO) hw hn c7 rfl f1 f2 fun τ u1 u2 u3 => ?_
 have hp' := u3.get hp (by simp only [List.mem_cons, not_or]; exact ⟨fun e => qp e.symm, hd⟩)
 exact hk O τ same u1 ⟨⟨x, some q, hp', fun e => by dsimp only at e; omega, fun _ => ⟨q, rfl, qO, qp, u2⟩⟩, own, pO⟩ (u3.mono fun i hi => by
  rcases List.mem_cons.1 hi with rfl | hi
  ·exact List.mem_append_left _ qO
  ·exact List.mem_append_right _ hi)
end Go.Fl
namespace Go.Fl
open Go
set_option linter.unusedVariables false
set_option linter.unusedSimpArgs false
variable {N : Nm} {A B : Ar} {σ : Mem} {K : Value → Mem → Prop} {C : Cf} {who : Int}
theorem c_awake8 : s_aw [] K σ = K (.bool true) σ := by unfold s_aw; exact nr rfl
theorem Ob.done {p : Nat} {O : List Nat} {m : Am} (hA : isA N A σ) (h : Ob N p O m σ) (hk : K (.agg #[.int .i64 m.a.oE, .int .u64 m.a.oH, .int .i64 m.a.oV, .int .i64 m.a.oS]) σ) : s_ah [.pointer (some ⟨p, 0, none⟩)] K σ := by
 obtain ⟨⟨x, y, hp, _, _⟩, own, pO⟩ := h
 exact c_AllocDone hA (a := { m.a with p := x, g := y }) hp (own p pO) hk
theorem ob_new {s : Int} {o : Bool} (hA : isA N A σ) (hk : ∀ p τ, σ.get p = none → Ob N p [p] (Am.new s o) τ → Ext σ τ → K (.pointer (some ⟨p, 0, none⟩)) τ) : s_al [.int .i64 s, .bool o] K σ := by
 refine c_AllocNew fun p τ hp gp x => hk p τ hp ⟨⟨none, none, gp, (fun e => by cases e), (fun e => by cases e)⟩, fun i hi => ?_, List.mem_singleton.2 rfl⟩ x
 rw [List.mem_singleton.1 hi]; exact hA.new hp
end Go.Fl
namespace Go.Fl
open Go
set_option linter.unusedVariables false
set_option linter.unusedSimpArgs false
variable {N : Nm} {A B : Ar} {σ : Mem} {K : Value → Mem → Prop} {C : Cf} {who : Int}
structure Alo (C : Cf) (o u : Int → Int) (nx : Int) (w : Int → Int) : Prop where
 bd : 0 ≤ nx ∧ nx ≤ C.C
 op : ∀ c, 0 ≤ c → c ≤ 3 → w (2 + c) = o c + 1 ∧ -1 ≤ o c ∧ o c < nx
 cls : ∀ c, 0 ≤ c → c ≤ 3 → 0 ≤ o c → chC (w (C.chunk (o c))) = c
 old : ∀ j, 0 ≤ j → j < nx → chS (w (C.chunk j)) = 1 ∧ chU (w (C.chunk j)) = u j ∧ 0 ≤ u j ∧ u j ≤ C.W
 new : ∀ j, nx ≤ j → j < C.C → w (C.chunk j) = 0 ∧ u j = 0
def good (C : Cf) (o u : Int → Int) (c : Int) : Prop := 0 ≤ o c ∧ u (o c) + roomOf c ≤ C.W
theorem Alo.take (hC : C.ok) {o u w : Int → Int} {nx c : Int} (h : Alo C o u nx w) (c0 : 0 ≤ c) (c3 : c ≤ 3) (hn : nx < C.C) :
  Alo C (upd o c nx) u (nx + 1) (upd (upd w (C.chunk nx) (putChunk 1 c 0 1)) (2 + c) (nx + 1)) := by
 have hW := hC.W
 obtain ⟨p1, p2, p3, p4⟩ := ch_put (st := 1) (c := c) (us := 0) (sp := 1) (by omega) (by omega) (by omega) (by omega)
 have wc : ∀ j, 0 ≤ j → j ≠ nx → upd (upd w (C.chunk nx) (putChunk 1 c 0 1)) (2 + c) (nx + 1) (C.chunk j) = w (C.chunk j) := by
  intro j j0 hj
  rw [upd_ne _ _ (chunk_ne hC j0 c3), upd_ne _ _ (fun e => hj (chunk_inj e))]
 have wn : upd (upd w (C.chunk nx) (putChunk 1 c 0 1)) (2 + c) (nx + 1) (C.chunk nx) = putChunk 1 c 0 1 := by
  rw [upd_ne _ _ (chunk_ne hC h.bd.1 c3), upd_same]
 have un := (h.new nx (Int.le_refl _) hn).2
 refine ⟨⟨by have := h.bd; omega, by omega⟩, fun k k0 k3 => ?_, fun k k0 k3 hk => ?_, fun j j0 j1 => ?_, fun j j0 j1 => ?_⟩
 ·by_cases e : k = c
  ·subst e; rw [upd_same, upd_same]; have := h.bd; omega
  ·rw [upd_ne _ _ (by omega), upd_ne _ _ (fun q => chunk_ne hC h.bd.1 k3 q.symm), upd_ne _ _ e]
   have := h.op k k0 k3; omega
 ·by_cases e : k = c
  ·subst e; rw [upd_same] at hk ⊢; rw [wn]; exact p2
  ·rw [upd_ne _ _ e] at hk ⊢
   have := h.op k k0 k3
   rw [wc _ hk (by omega)]; exact h.cls k k0 k3 hk
 ·by_cases e : j = nx
  ·subst e; rw [wn, un]; exact ⟨p1, p3, by omega, by omega⟩
  ·rw [wc _ j0 e]; exact h.old j j0 (by omega)
 ·have := h.bd
  rw [wc _ (by omega) (by omega)]; exact h.new j (by omega) j1
end Go.Fl
namespace Go.Fl
open Go
set_option linter.unusedVariables false
set_option linter.unusedSimpArgs false
variable {N : Nm} {A B : Ar} {σ : Mem} {K : Value → Mem → Prop} {C : Cf} {who : Int}
theorem Alo.congr {o u w w' : Int → Int} {nx : Int} (h : Alo C o u nx w) (h1 : ∀ c, 0 ≤ c → c ≤ 3 → w' (2 + c) = w (2 + c)) (h2 : ∀ j, 0 ≤ j → j < C.C → w' (C.chunk j) = w (C.chunk j)) : Alo C o u nx w' := by
 have hb := h.bd
 refine ⟨h.bd, fun c c0 c3 => by rw [h1 c c0 c3]; exact h.op c c0 c3, fun c c0 c3 hc => ?_, fun j j0 j1 => by rw [h2 j j0 (by omega)]; exact h.old j j0 j1, fun j j0 j1 => by rw [h2 j (by omega) j1]; exact h.new j j0 j1⟩
 have := h.op c c0 c3
 rw [h2 _ hc (by omega)]; exact h.cls c c0 c3 hc
theorem Fre.congr {F : List Int} {w w' : Int → Int} (h : Fre C w F) (h1 : w' 1 = w 1) (h2 : ∀ s, 0 ≤ s → s < C.S → w' (C.slot s + 1) = w (C.slot s + 1)) : Fre C w' F :=
 ⟨by rw [h1]; exact h.c.congr fun s hs => by have := h.c.mem s hs; rw [h2 s this.1 this.2], h.nd⟩
structure Aw (C : Cf) (F : List Int) (o u lv : Int → Int) (nx : Int) (w : Int → Int) : Prop where
 fre : Fre C w F
 alo : Alo C o u nx w
 live : ∀ j, 0 ≤ j → j < C.C → w (C.chunk j + 1) = lv j
 nil : ∀ j i, 0 ≤ j → j < C.C → u j ≤ i → i < C.W → w (C.base j + i) = 0
theorem base_of (hC : C.ok) {j i : Int} (j0 : 0 ≤ j) (j1 : j < C.C) (i0 : 0 ≤ i) (i1 : i < C.W) : ofC C (C.base j + i) = j ∧ 0 ≤ C.base j + i ∧ C.base j + i < C.len := by
 have hW := hC.W
 have hT := hC.T
 have hS := hC.S
 have hC3 := hC.C
 have hm := mulW hC j0 (by omega)
 have hm2 : C.W * (j + 1) ≤ C.W * C.C := Int.mul_le_mul_of_nonneg_left (by omega) (by omega)
 rw [Int.mul_add, Int.mul_one] at hm2
 have e0 : C.base 0 = 6 + C.T + 2 * C.S + 3 * C.C := by unfold Cf.base; omega
 have ej : C.base j = 6 + C.T + 2 * C.S + 3 * C.C + C.W * j := rfl
 have el : C.len = 6 + C.T + 2 * C.S + 3 * C.C + C.W * C.C := rfl
 refine ⟨?_, by omega, by omega⟩
 unfold ofC
 rw [if_pos (by omega), show C.base j + i - C.base 0 = i + C.W * j by omega, Int.add_mul_ediv_left _ _ (by omega), Int.ediv_eq_zero_of_lt i0 i1]
 omega
theorem base_inj (hC : C.ok) {j i k l : Int} (j0 : 0 ≤ j) (j1 : j < C.C) (i0 : 0 ≤ i) (i1 : i < C.W) (k0 : 0 ≤ k) (k1 : k < C.C) (l0 : 0 ≤ l) (l1 : l < C.W) (h : C.base j + i = C.base k + l) : j = k ∧ i = l := by
 have a := (base_of hC j0 j1 i0 i1).1
 have b := (base_of hC k0 k1 l0 l1).1
 rw [h, b] at a
 subst a
 exact ⟨rfl, by omega⟩
theorem base_ge (hC : C.ok) {j i : Int} (j0 : 0 ≤ j) (j1 : j < C.C) (i0 : 0 ≤ i) : 6 + C.T + 2 * C.S + 3 * C.C ≤ C.base j + i := by
 have := mulW hC j0 (by have := hC.C; omega)
 unfold Cf.base; omega
section
variable {F : List Int} {o u lv w w' : Int → Int} {nx : Int}
theorem Aw.keep (hC : C.ok) (h : Aw C F o u lv nx w) (h1 : ∀ a, a = 1 ∨ (2 ≤ a ∧ a < 6) ∨ (∃ s, 0 ≤ s ∧ s < C.S ∧ a = C.slot s + 1) ∨ (∃ j, 0 ≤ j ∧ j < C.C ∧ (a = C.chunk j ∨ a = C.chunk j + 1)) ∨ (∃ j i, 0 ≤ j ∧ j < C.C ∧ u j ≤ i ∧ i < C.W ∧ a = C.base j + i) → w' a = w a) : Aw C F o u lv nx w' :=
  ⟨h.fre.congr (h1 1 (.inl rfl)) fun s s0 s1 => h1 _ (.inr (.inr (.inl ⟨s, s0, s1, rfl⟩))),
   h.alo.congr (fun c c0 c3 => h1 _ (.inr (.inl ⟨by omega, by omega⟩))) fun j j0 j1 => h1 _ (.inr (.inr (.inr (.inl ⟨j, j0, j1, .inl rfl⟩)))),
   fun j j0 j1 => by rw [h1 _ (.inr (.inr (.inr (.inl ⟨j, j0, j1, .inr rfl⟩))))]; exact h.live j j0 j1,
   fun j i j0 j1 i0 i1 => by rw [h1 _ (.inr (.inr (.inr (.inr ⟨j, i, j0, j1, i0, i1, rfl⟩))))]; exact h.nil j i j0 j1 i0 i1⟩
theorem Aw.u0 (h : Aw C F o u lv nx w) {j : Int} (j0 : 0 ≤ j) (j1 : j < C.C) : 0 ≤ u j := by
 by_cases e : j < nx
 ·exact (h.alo.old j j0 e).2.2.1
 ·rw [(h.alo.new j (by omega) j1).2]; exact Int.le_refl 0
theorem Aw.slotw (hC : C.ok) (h : Aw C F o u lv nx w) {s v : Int} (s0 : 0 ≤ s) (s1 : s < C.S) : Aw C F o u lv nx (upd w (C.slot s) v) := by
 have hT := hC.T
 refine h.keep hC fun a ha => upd_ne _ _ ?_
 have e : C.slot s = 6 + C.T + 2 * s := rfl
 rcases ha with ha | ha | ⟨t, t0, t1, ha⟩ | ⟨j, j0, j1, ha⟩ | ⟨j, i, j0, j1, i0, i1, ha⟩
 ·omega
 ·omega
 ·have : C.slot t = 6 + C.T + 2 * t := rfl
  omega
 ·have : C.chunk j = 6 + C.T + 2 * C.S + 3 * j := rfl
  omega
 ·have := base_ge hC j0 j1 (i := i) (by have := h.u0 j0 j1; omega)
  have := hC.C
  omega
theorem Aw.word (hC : C.ok) (h : Aw C F o u lv nx w) {k l v : Int} (k0 : 0 ≤ k) (k1 : k < C.C) (l0 : 0 ≤ l) (l1 : l < u k) (l2 : l < C.W) : Aw C F o u lv nx (upd w (C.base k + l) v) := by
 have hT := hC.T
 have hb := base_ge hC k0 k1 l0
 have hCC := hC.C
 have hS := hC.S
 refine h.keep hC fun a ha => upd_ne _ _ ?_
 rcases ha with ha | ha | ⟨t, t0, t1, ha⟩ | ⟨j, j0, j1, ha⟩ | ⟨j, i, j0, j1, i0, i1, ha⟩
 ·omega
 ·omega
 ·have : C.slot t = 6 + C.T + 2 * t := rfl
  omega
 ·have : C.chunk j = 6 + C.T + 2 * C.S + 3 * j := rfl
  omega
 ·have hu := h.u0 j0 j1
  rw [ha]
  intro q
  obtain ⟨rfl, rfl⟩ := base_inj hC j0 j1 (by omega) i1 k0 k1 l0 l2 q
  omega
theorem Aw.took (hC : C.ok) {s : Int} (h : Aw C (s :: F) o u lv nx w) : Aw C F o u lv nx (tookW C w) := by
 have hT := hC.T
 have hS := hC.S
 have hCC := hC.C
 have ne : ∀ a, a ≠ 1 → tookW C w a = w a := fun a ha => by unfold tookW; exact upd_ne _ _ ha
 refine ⟨(h.fre.took hC).1, h.alo.congr (fun c c0 c3 => ne _ (by omega)) fun j j0 j1 => ne _ (by unfold Cf.chunk; omega), fun j j0 j1 => ?_, fun j i j0 j1 i0 i1 => ?_⟩
 ·rw [ne _ (by unfold Cf.chunk; omega)]; exact h.live j j0 j1
 ·have hb := base_ge hC j0 j1 (i := i) (by have := h.u0 j0 j1; omega)
  rw [ne _ (by omega)]; exact h.nil j i j0 j1 i0 i1
structure Rs (C : Cf) (F : List Int) (u lv : Int → Int) (w : Int → Int) : Prop where
 fre : Fre C w F
 live : ∀ j, 0 ≤ j → j < C.C → w (C.chunk j + 1) = lv j
 nil : ∀ j i, 0 ≤ j → j < C.C → u j ≤ i → i < C.W → w (C.base j + i) = 0
theorem Aw.rs (h : Aw C F o u lv nx w) : Rs C F u lv w := ⟨h.fre, h.live, h.nil⟩
theorem Rs.aw {u' : Int → Int} (h : Rs C F u lv w) (ha : Alo C o u' nx w) (hu : ∀ j, u j ≤ u' j) : Aw C F o u' lv nx w :=
 ⟨h.fre, ha, h.live, fun j i j0 j1 i0 i1 => h.nil j i j0 j1 (by have := hu j; omega) i1⟩
theorem Rs.go (hC : C.ok) (h : Rs C F u lv A.w) (hu : ∀ j, 0 ≤ j → j < C.C → 0 ≤ u j) {p : Pl} {r : Bool × Pl × Ar} {a : Int} (hf : p.fit C) (g : Go1 C A p r a) : Rs C F u lv r.2.2.w := by
 have hT := hC.T
 have hS := hC.S
 have hCC := hC.C
 have hc := hf.cls
 have hj := hf.at'
 have e : C.chunk p.at' = 6 + C.T + 2 * C.S + 3 * p.at' := rfl
 have ne : ∀ i, i ≠ 2 + p.cls → i ≠ C.chunk p.at' → r.2.2.w i = A.w i := fun i h1 h2 => g.w i (by rcases g.wh with q | q <;> rw [q] <;> assumption)
 refine ⟨h.fre.congr (ne _ (by omega) (by omega)) fun s s0 s1 => ne _ ?_ ?_, fun j j0 j1 => ?_, fun j i j0 j1 i0 i1 => ?_⟩
 ·have : C.slot s = 6 + C.T + 2 * s := rfl
  omega
 ·have : C.slot s = 6 + C.T + 2 * s := rfl
  omega
 ·have q : C.chunk j = 6 + C.T + 2 * C.S + 3 * j := rfl
  rw [ne _ (by omega) (by omega)]; exact h.live j j0 j1
 ·have hb := base_ge hC j0 j1 (i := i) (by have := hu j j0 j1; omega)
  rw [ne _ (by omega) (by omega)]; exact h.nil j i j0 j1 i0 i1
end
end Go.Fl
namespace Go.Fl
open Go
set_option linter.unusedVariables false
set_option linter.unusedSimpArgs false
variable {N : Nm} {A B : Ar} {σ : Mem} {K : Value → Mem → Prop} {C : Cf} {who : Int}
structure Bg where
 F : List Int
 o : Int → Int
 u : Int → Int
 lv : Int → Int
 nx : Int
end Go.Fl
namespace Go.Fl
open Go
set_option linter.unusedVariables false
set_option linter.unusedSimpArgs false
variable {N : Nm} {A B : Ar} {σ : Mem} {K : Value → Mem → Prop} {C : Cf} {who : Int}
theorem aft_add {b a d : Int} (h : A.ok b) (hb : b < 9223372036854775807) : Aft A ((A.by who).add a d) 1 (upd A.w a (IntKind.u64.wrap (A.w a + d))) :=
 aft_store (v := IntKind.u64.wrap (A.w a + d)) h hb
structure Tch (C : Cf) (A : Ar) (m : Am) (r : Bool × Am × Ar) (a : Int) : Prop where
 la : r.2.2.la = a
 s : r.2.2.s = A.s + 1
 n : r.2.2.n = A.n
 w : ∀ i, i ≠ a → r.2.2.w i = A.w i
 kind : (m.a.pc = 0 ∨ m.a.pc = 7) ∧ (a = 1 ∨ ∃ s, 0 ≤ s ∧ s < C.S ∧ a = C.slot s + 1) ∨ m.a.pc = 1 ∧ a = C.slot m.a.at' ∧ r.2.2.w = A.w ∨ m.a.pc = 2 ∧ (a = 2 + m.t.cls ∨ a = C.chunk m.t.at') ∨ m.a.pc = 3 ∧ a = C.chunk m.a.sc + 1 ∨
  (m.a.pc = 4 ∨ m.a.pc = 6) ∧ a = m.a.sa ∨ m.a.pc = 5 ∧ a = C.slot m.a.at'
theorem Am.go (hC : C.ok) {b : Int} (hb : b < 4611686018427387904) (hP : Pa C A b) {m : Am} (hf : m.fit C A) (hc : ¬ (m.a.pc = 0 ∧ classOf m.a.size < 0)) (hsa : m.a.pc = 4 ∨ m.a.pc = 6 → C.base 0 ≤ m.a.sa) :
  Pa C (m.step C who A).2.2 (b + 1) ∧ ∃ a, Tch C A m (m.step C who A) a := by
 obtain ⟨ok, n, op⟩ := hP
 have hT := hC.T
 have hS := hC.S
 have hCC := hC.C
 have hb0 : C.base 0 = 6 + C.T + 2 * C.S + 3 * C.C := by unfold Cf.base; omega
 have L : ∀ a, Pa C ((A.by who).load a) (b + 1) := fun a => ⟨(aft_load ok (by omega)).ok (by decide) ok ok.w, n, op⟩
 have W : ∀ a v, (∀ c, 0 ≤ c → c ≤ 3 → 2 + c ≠ a) → 0 ≤ v ∧ v < 18446744073709551616 → Pa C ((A.by who).store a v) (b + 1) := by
  intro a v ha hv
  have a1 := aft_store (who := who) (A := A) (a := a) (v := v) ok (by omega)
  refine ⟨a1.ok (by decide) ok fun i => upd_cases (P := fun x => 0 ≤ x ∧ x < 18446744073709551616) hv (ok.w i), n, fun c c0 c3 => ?_⟩
  rw [a1.w, upd_ne _ _ (ha c c0 c3)]; exact op c c0 c3
 have Z : ∀ a o v, (∀ c, 0 ≤ c → c ≤ 3 → 2 + c ≠ a) → 0 ≤ v ∧ v < 18446744073709551616 → Pa C ((A.by who).cas a o v) (b + 1) := by
  intro a o v ha hv
  have a1 := aft_cas (who := who) (A := A) (a := a) (o := o) (v := v) ok (by omega)
  refine ⟨a1.ok (by decide) ok fun i => ?_, by rw [a1.n]; exact n, fun c c0 c3 => ?_⟩
  ·split
   ·exact upd_cases (P := fun x => 0 ≤ x ∧ x < 18446744073709551616) hv (ok.w i)
   ·exact ok.w i
  ·rw [a1.w, aw (ha c c0 c3)]; exact op c c0 c3
 have sL := fun a => (aft_load (who := who) (a := a) ok (by omega)).s
 have sW := fun a v => (aft_store (who := who) (a := a) (v := v) ok (by omega)).s
 have aC := fun a o v => aft_cas (who := who) (A := A) (a := a) (o := o) (v := v) ok (by omega)
 have hpc := hf.pc
 by_cases c0 : m.a.pc = 0
 ·have hcl : ¬ classOf m.a.size < 0 := fun q => hc ⟨c0, q⟩
  obtain ⟨t1, t2, t3⟩ := hf.tk c0
  have e : (m.step C who A).2.2 = (m.a.tk.step C who A).2.2 := by
   unfold Am.step; rw [if_pos c0, if_neg hcl]; dsimp only
   split
   ·rfl
   ·split <;> rfl
  have key : ∃ a, (a = 1 ∨ ∃ s, 0 ≤ s ∧ s < C.S ∧ a = C.slot s + 1) ∧ Pa C (m.a.tk.step C who A).2.2 (b + 1) ∧ (m.a.tk.step C who A).2.2.la = a ∧ (m.a.tk.step C who A).2.2.s = A.s + 1 ∧ (m.a.tk.step C who A).2.2.n = A.n ∧ ∀ i, i ≠ a → (m.a.tk.step C who A).2.2.w i = A.w i := by
   unfold Tk.step
   by_cases q0 : m.a.tk.pc = 0
   ·rw [if_pos q0]; exact ⟨1, .inl rfl, L 1, rfl, sL 1, rfl, fun _ _ => rfl⟩
   ·rw [if_neg q0]
    by_cases q1 : m.a.tk.pc = 1
    ·rw [if_pos q1]; have := t2 q1; exact ⟨_, .inr ⟨_, this.1, this.2, rfl⟩, L _, rfl, sL _, rfl, fun _ _ => rfl⟩
    ·rw [if_neg q1]; exact ⟨1, .inl rfl, Z _ _ _ (fun c c0 c3 => by omega) (putTop_in _ _), cas_la, (aC _ _ _).s, (aC _ _ _).n, fun i hi => by rw [(aC _ _ _).w, aw hi]⟩
  obtain ⟨a, k1, k2, k3, k4, k5, k6⟩ := key
  exact ⟨by rw [e]; exact k2, a, ⟨by rw [e]; exact k3, by rw [e]; exact k4, by rw [e]; exact k5, by rw [e]; exact k6, .inl ⟨.inl c0, k1⟩⟩⟩
 have hat := hf.at' c0
 have hcl := hf.cl c0
 have hsl : C.slot m.a.at' = 6 + C.T + 2 * m.a.at' := rfl
 by_cases c1 : m.a.pc = 1
 ·have e : (m.step C who A).2.2 = (A.by who).load (C.slot m.a.at') := by unfold Am.step; rw [if_neg c0, if_pos c1]
  exact ⟨by rw [e]; exact L _, _, ⟨by rw [e]; exact load_la, by rw [e]; exact sL _, by rw [e]; rfl, fun i _ => by rw [e]; rfl, .inr (.inl ⟨c1, rfl, by rw [e]; rfl⟩)⟩⟩
 by_cases c2 : m.a.pc = 2
 ·obtain ⟨f1, f2⟩ := hf.pl c2
  obtain ⟨g1, _, a, g3⟩ := Pl.go (who := who) hC hb ⟨ok, n, op⟩ f1
  have e : (m.step C who A).2.2 = (m.t.step C who A).2.2 := by
   unfold Am.step; rw [if_neg c0, if_neg c1, if_pos c2]; dsimp only
   split
   ·rfl
   ·split <;> rfl
  exact ⟨by rw [e]; exact g1, a, ⟨by rw [e]; exact g3.la, by rw [e]; exact g3.s, by rw [e]; exact g3.n, by rw [e]; exact g3.w, .inr (.inr (.inl ⟨c2, g3.wh⟩))⟩⟩
 by_cases c3 : m.a.pc = 3
 ·have e : (m.step C who A).2.2 = (A.by who).add (C.chunk m.a.sc + 1) (roomOf (classOf m.a.size)) := by unfold Am.step; rw [if_neg c0, if_neg c1, if_neg c2, if_pos c3]
  have hsc := (hf.spot (by omega) (by omega)).1
  have hcj : C.chunk m.a.sc = 6 + C.T + 2 * C.S + 3 * m.a.sc := rfl
  have hwr : 0 ≤ IntKind.u64.wrap (A.w (C.chunk m.a.sc + 1) + roomOf (classOf m.a.size)) ∧ IntKind.u64.wrap (A.w (C.chunk m.a.sc + 1) + roomOf (classOf m.a.size)) < 18446744073709551616 := by
   show 0 ≤ (A.w (C.chunk m.a.sc + 1) + roomOf (classOf m.a.size)) % 18446744073709551616 ∧ (A.w (C.chunk m.a.sc + 1) + roomOf (classOf m.a.size)) % 18446744073709551616 < 18446744073709551616
   omega
  have := W (C.chunk m.a.sc + 1) (IntKind.u64.wrap (A.w (C.chunk m.a.sc + 1) + roomOf (classOf m.a.size))) (fun c c0 c3 => by omega) hwr
  exact ⟨by rw [e]; exact this, _, ⟨by rw [e]; rfl, by rw [e]; exact sW _ _, by rw [e]; rfl, fun i hi => by rw [e]; exact upd_ne _ _ hi, .inr (.inr (.inr (.inl ⟨c3, rfl⟩)))⟩⟩
 by_cases c4 : m.a.pc = 4
 ·have e : (m.step C who A).2.2 = (A.by who).store m.a.sa (putHead 1 m.a.size m.a.at' m.a.gen m.a.own) := by unfold Am.step; rw [if_neg c0, if_neg c1, if_neg c2, if_neg c3, if_pos c4]
  have hs := hsa (.inl c4)
  exact ⟨by rw [e]; exact W _ _ (fun c c0 c3 => by omega) (putHead_in _ _ _ _ _), _, ⟨by rw [e]; rfl, by rw [e]; exact sW _ _, by rw [e]; rfl, fun i hi => by rw [e]; exact upd_ne _ _ hi, .inr (.inr (.inr (.inr (.inl ⟨.inl c4, rfl⟩))))⟩⟩
 by_cases c5 : m.a.pc = 5
 ·have e : (m.step C who A).2.2 = (A.by who).store (C.slot m.a.at') (putSlot 1 m.a.sa m.a.gen 0) := by unfold Am.step; rw [if_neg c0, if_neg c1, if_neg c2, if_neg c3, if_neg c4, if_pos c5]
  exact ⟨by rw [e]; exact W _ _ (fun c c0 c3 => by omega) (putSlot_in _ _ _ _), _, ⟨by rw [e]; rfl, by rw [e]; exact sW _ _, by rw [e]; rfl, fun i hi => by rw [e]; exact upd_ne _ _ hi, .inr (.inr (.inr (.inr (.inr ⟨c5, rfl⟩))))⟩⟩
 by_cases c6 : m.a.pc = 6
 ·have e : (m.step C who A).2.2 = (A.by who).store m.a.sa (putHead 2 m.a.size m.a.at' m.a.gen m.a.own) := by unfold Am.step; rw [if_neg c0, if_neg c1, if_neg c2, if_neg c3, if_neg c4, if_neg c5, if_pos c6]
  have hs := hsa (.inr c6)
  exact ⟨by rw [e]; exact W _ _ (fun c c0 c3 => by omega) (putHead_in _ _ _ _ _), _, ⟨by rw [e]; rfl, by rw [e]; exact sW _ _, by rw [e]; rfl, fun i hi => by rw [e]; exact upd_ne _ _ hi, .inr (.inr (.inr (.inr (.inl ⟨.inr c6, rfl⟩))))⟩⟩
 have c7 : m.a.pc = 7 := by omega
 obtain ⟨g1, g2⟩ := hf.gv c7
 have e : (m.step C who A).2.2 = (m.g.step C who A).2.2 := by unfold Am.step; rw [if_neg c0, if_neg c1, if_neg c2, if_neg c3, if_neg c4, if_neg c5, if_neg c6]
 have key : ∃ a, (a = 1 ∨ ∃ s, 0 ≤ s ∧ s < C.S ∧ a = C.slot s + 1) ∧ Pa C (m.g.step C who A).2.2 (b + 1) ∧ (m.g.step C who A).2.2.la = a ∧ (m.g.step C who A).2.2.s = A.s + 1 ∧ (m.g.step C who A).2.2.n = A.n ∧ ∀ i, i ≠ a → (m.g.step C who A).2.2.w i = A.w i := by
  have hsg : C.slot m.g.slot = 6 + C.T + 2 * m.g.slot := rfl
  unfold Gv.step
  by_cases q0 : m.g.pc = 0
  ·rw [if_pos q0]; exact ⟨1, .inl rfl, L 1, rfl, sL 1, rfl, fun _ _ => rfl⟩
  ·rw [if_neg q0]
   by_cases q1 : m.g.pc = 1
   ·rw [if_pos q1]; exact ⟨_, .inr ⟨_, g2.1, g2.2, rfl⟩, W _ _ (fun c c0 c3 => by omega) (putTop_in _ _), rfl, sW _ _, rfl, fun i hi => upd_ne _ _ hi⟩
   ·rw [if_neg q1]; exact ⟨1, .inl rfl, Z _ _ _ (fun c c0 c3 => by omega) (putTop_in _ _), cas_la, (aC _ _ _).s, (aC _ _ _).n, fun i hi => by rw [(aC _ _ _).w, aw hi]⟩
 obtain ⟨a, k1, k2, k3, k4, k5, k6⟩ := key
 exact ⟨by rw [e]; exact k2, a, ⟨by rw [e]; exact k3, by rw [e]; exact k4, by rw [e]; exact k5, by rw [e]; exact k6, .inl ⟨.inr c7, k1⟩⟩⟩
end Go.Fl
namespace Go.Fl
open Go
set_option linter.unusedVariables false
set_option linter.unusedSimpArgs false
variable {N : Nm} {A B : Ar} {σ : Mem} {K : Value → Mem → Prop} {C : Cf} {who : Int}
def Bg.aw (b : Bg) (C : Cf) (w : Int → Int) : Prop := Aw C b.F b.o b.u b.lv b.nx w
theorem addr_ne (hC : C.ok) {j i : Int} (j0 : 0 ≤ j) (j1 : j < C.C) (i0 : 0 ≤ i) : (∀ s, s < C.S → C.base j + i ≠ C.slot s) ∧ (∀ k, k < C.C → C.base j + i ≠ C.chunk k + 1) := by
 have hb := base_ge hC j0 j1 i0
 have hT := hC.T
 have hCC := hC.C
 have hS := hC.S
 refine ⟨fun s hs => ?_, fun k hk => ?_⟩
 ·unfold Cf.slot; omega
 ·unfold Cf.chunk; omega
end Go.Fl
namespace Go.Fl
open Go
set_option linter.unusedVariables false
set_option linter.unusedSimpArgs false
variable {N : Nm} {A B : Ar} {σ : Mem} {K : Value → Mem → Prop} {C : Cf} {who : Int}
theorem class_bd (n : Int) : -1 ≤ classOf n ∧ classOf n ≤ 3 := by unfold classOf; (repeat' split) <;> omega
theorem Tch.bd (hC : C.ok) {m : Am} {r : Bool × Am × Ar} {a : Int} (h : Tch C A m r a) (hf : m.fit C A) (hs : m.a.pc = 4 ∨ m.a.pc = 6 → C.base 0 ≤ m.a.sa ∧ m.a.sa < C.len) :
  (0 ≤ a ∧ a < C.len) ∧ (C.base 0 ≤ a → (m.a.pc = 4 ∨ m.a.pc = 6) ∧ a = m.a.sa) := by
 have hl := len_bd hC
 have hT := hC.T
 have hS := hC.S
 have hCC := hC.C
 have hb0 : C.base 0 = 6 + C.T + 2 * C.S + 3 * C.C := by unfold Cf.base; omega
 have hch : C.chunk C.C = 6 + C.T + 2 * C.S + 3 * C.C := rfl
 rcases h.kind with ⟨_, h | ⟨s, s0, s1, h⟩⟩ | ⟨h1, h, _⟩ | ⟨h1, h⟩ | ⟨h1, h⟩ | ⟨h1, h⟩ | ⟨h1, h⟩
 ·omega
 ·unfold Cf.slot at h; omega
 ·have := hf.at' (by omega); unfold Cf.slot at h; omega
 ·have := (hf.pl h1).1.at'; have := (hf.pl h1).1.cls; unfold Cf.chunk at *; omega
 ·have := (hf.spot (by omega) (by omega)).1; unfold Cf.chunk at *; omega
 ·have := hs h1
  exact ⟨by omega, fun _ => ⟨h1, h⟩⟩
 ·have := hf.at' (by omega); unfold Cf.slot at h; omega
end Go.Fl
namespace Go.Fl
open Go
set_option linter.unusedVariables false
set_option linter.unusedSimpArgs false
variable {N : Nm} {A B : Ar} {σ : Mem} {K : Value → Mem → Prop} {C : Cf} {who : Int}
def Bg.fr (C : Cf) : Bg := ⟨upL 0 C.S.toNat, fun _ => -1, fun _ => 0, fun _ => 0, 0⟩
theorem w0_high (hC : C.ok) {a : Int} (h : C.chunk 0 ≤ a) : C.w0 a = 0 := by
 have := hC.T; have := hC.S
 unfold Cf.chunk at h
 unfold Cf.w0 Cf.fr Cf.slot
 rw [if_neg (by omega), if_neg (by omega), if_neg (by omega)]
theorem fr_aw (hC : C.ok) : (Bg.fr C).aw C C.w0 := by
 have hT := hC.T
 have hS := hC.S
 have hCC := hC.C
 have hW := hC.W
 have hb0 : C.base 0 = 6 + C.T + 2 * C.S + 3 * C.C := by unfold Cf.base; omega
 have hc0 : C.chunk 0 = 6 + C.T + 2 * C.S := by unfold Cf.chunk; omega
 refine ⟨fre0 hC, ⟨⟨(by decide : (0 : Int) ≤ 0), by show (0 : Int) ≤ C.C; omega⟩, fun c c0 c3 => ⟨w0_open hC c0 c3, (by decide : (-1 : Int) ≤ -1), (by decide : (-1 : Int) < 0)⟩, fun c _ _ h => absurd h (by decide : ¬ (0 : Int) ≤ -1), fun j j0 j1 => ?_, fun j j0 j1 => ⟨w0_chunk hC j0, rfl⟩⟩, fun j j0 j1 => ?_, fun j i j0 j1 i0 i1 => ?_⟩
 ·have : j < 0 := j1
  omega
 ·exact w0_high hC (by unfold Cf.chunk at *; omega)
 ·have : (0 : Int) ≤ i := i0
  have := mulW hC j0 (by omega)
  exact w0_high hC (by rw [hc0]; unfold Cf.base; omega)
theorem Frsh.pa (hC : C.ok) (h : Frsh N C A) : Pa C A (2 * C.S + 2) := by
 have hl := len_bd hC
 have hCC := hC.C
 refine ⟨h.ok, ?_, fun c c0 c3 => ?_⟩
 ·rw [h.n]; omega
 ·rw [h.w, w0_open hC c0 c3]; omega
theorem Frsh.aw (hC : C.ok) (h : Frsh N C A) : (Bg.fr C).aw C A.w := by rw [h.w]; exact fr_aw hC
theorem Ob.ext {p : Nat} {O : List Nat} {m : Am} {τ : Mem} (h : Ob N p O m σ) (x : Ext σ τ) : Ob N p O m τ := by
 obtain ⟨⟨a, b, h1, h2, h3⟩, h4, h5⟩ := h
 refine ⟨⟨a, b, x _ _ h1, fun e => ?_, fun e => ?_⟩, h4, h5⟩
 ·obtain ⟨q, q1, q2, q3, q4⟩ := h2 e; exact ⟨q, q1, q2, q3, x _ _ q4⟩
 ·obtain ⟨q, q1, q2, q3, q4⟩ := h3 e; exact ⟨q, q1, q2, q3, x _ _ q4⟩
end Go.Fl
namespace Go.Fl
open Go
set_option linter.unusedVariables false
set_option linter.unusedSimpArgs false
variable {N : Nm} {A B : Ar} {σ : Mem} {K : Value → Mem → Prop} {C : Cf} {who : Int}
inductive Ms where
 | wk (m : Am)
 | md (s j i z : Int)
 | no
def Ms.ps : Ms → Ps
 | .wk m => if m.a.pc = 0 then .tk 0 m.a.tk else if m.a.pc = 7 then .gv 0 m.g else .gv 0 ⟨0, m.a.at', 0⟩
 | .md s _ _ _ => .gv 0 ⟨0, s, 0⟩
 | .no => .tk 0 Tk.new
def Ms.spot (C : Cf) : Ms → Option (Int × Int × Int)
 | .wk m => if 3 ≤ m.a.pc ∧ m.a.pc ≤ 6 then some (m.a.sc, m.a.sa - C.base m.a.sc, roomOf (classOf m.a.size)) else none
 | .md _ j i z => some (j, i, roomOf (classOf z))
 | .no => none
theorem Ms.ps_wk {m : Am} : (Ms.wk m).ps = if m.a.pc = 0 then .tk 0 m.a.tk else if m.a.pc = 7 then .gv 0 m.g else .gv 0 ⟨0, m.a.at', 0⟩ := rfl
theorem Ms.spot_wk {m : Am} : (Ms.wk m).spot C = if 3 ≤ m.a.pc ∧ m.a.pc ≤ 6 then some (m.a.sc, m.a.sa - C.base m.a.sc, roomOf (classOf m.a.size)) else none := rfl
structure Pl.fine (C : Cf) (t : Pl) : Prop where
 fit : t.fit C
 ok : t.ok = false
 see : t.pc = 2 → chS t.w = 1 ∧ chC t.w = t.cls ∧ chU t.w + roomOf t.cls ≤ C.W
 take : t.pc = 4 → chS t.w = 0
theorem Pl.new_fine (hC : C.ok) {c : Int} (h0 : 0 ≤ c) (h1 : c ≤ 3) : (Pl.new c).fine C := ⟨Pl.new_fit hC h0 h1, rfl, fun e => (by cases e), fun e => (by cases e)⟩
theorem ch_put' {st c us sp : Int} (h1 : 0 ≤ st ∧ st ≤ 3) (h2 : 0 ≤ c ∧ c ≤ 63) (h3 : 0 ≤ us ∧ us ≤ 1048575) : chS (putChunk st c us sp) = st ∧ chC (putChunk st c us sp) = c ∧ chU (putChunk st c us sp) = us := by
 unfold putChunk chS chC chU cl; omega
structure Rm (C : Cf) (w : Int → Int) (j i z : Int) : Prop where
 cl : 0 ≤ classOf z
 jb : 0 ≤ j ∧ j < C.C
 ib : 0 ≤ i ∧ i + roomOf (classOf z) ≤ chU (w (C.chunk j))
 st : chS (w (C.chunk j)) = 1
 cc : chC (w (C.chunk j)) = classOf z
 ze : ∀ x, 1 ≤ x → x < roomOf (classOf z) → w (C.base j + (i + x)) = 0
def frW : Int := putSlot 0 0 1 0
def Ms.fine (C : Cf) (w : Int → Int) : Ms → Prop
 | .wk m => (0 ≤ classOf m.a.size ∧ m.a.own = false ∧ (0 ≤ m.a.pc ∧ m.a.pc ≤ 7)) ∧ (m.a.pc = 0 ∨ m.a.pc = 1 ∧ w (C.slot m.a.at') = frW ∨ m.a.gen = 1 ∧ (
   m.a.pc = 2 ∧ w (C.slot m.a.at') = frW ∧ m.t.fine C ∧ m.t.cls = classOf m.a.size ∨
   m.a.pc = 7 ∧ w (C.slot m.a.at') = frW ∧ m.g.slot = m.a.at' ∧ m.a.oE = 6 ∨
   Rm C w m.a.sc (m.a.sa - C.base m.a.sc) m.a.size ∧ (
    (m.a.pc = 3 ∨ m.a.pc = 4) ∧ w (C.slot m.a.at') = frW ∧ w m.a.sa = 0 ∨
    m.a.pc = 5 ∧ w (C.slot m.a.at') = frW ∧ w m.a.sa = putHead 1 m.a.size m.a.at' 1 false ∨
    m.a.pc = 6 ∧ w (C.slot m.a.at') = putSlot 1 m.a.sa 1 0 ∧ w m.a.sa = putHead 1 m.a.size m.a.at' 1 false ∧ m.a.oE = 0 ∧ m.a.oH = putHandle m.a.at' 1)))
 | .md s j i z => Rm C w j i z ∧ w (C.slot s) = putSlot 1 (C.base j + i) 1 0 ∧ w (C.base j + i) = putHead 2 z s 1 false
 | .no => True
structure Gm (C : Cf) (n : Int) (X : Int → Ms) (F : List Int) (k : Int) (w : Int → Int) : Prop where
 sh : Sh (fun a => 0 ≤ a ∧ a < n) C w (fun a => (X a).ps) F k
 op : ∀ c, 0 ≤ c → c ≤ 3 → w (2 + c) ≤ C.C
 ub : ∀ j, 0 ≤ j → j < C.C → chU (w (C.chunk j)) ≤ C.W ∧ (chS (w (C.chunk j)) = 0 → chU (w (C.chunk j)) = 0)
 nil : ∀ j i, 0 ≤ j → j < C.C → 0 ≤ i → chU (w (C.chunk j)) ≤ i → i < C.W → w (C.base j + i) = 0
 fr : ∀ s ∈ F, w (C.slot s) = frW
 each : ∀ a, 0 ≤ a → a < n → (X a).fine C w
 ap : ∀ a b j i r j' i' r', 0 ≤ a → a < n → 0 ≤ b → b < n → a ≠ b → (X a).spot C = some (j, i, r) → (X b).spot C = some (j', i', r') → j ≠ j' ∨ i + r ≤ i' ∨ i' + r' ≤ i
def updM (f : Int → Ms) (i : Int) (x : Ms) : Int → Ms := fun j => if j = i then x else f j
theorem updM_same {f : Int → Ms} {i : Int} {x : Ms} : updM f i x i = x := if_pos rfl
theorem updM_ne {f : Int → Ms} {i j : Int} {x : Ms} (h : j ≠ i) : updM f i x j = f j := if_neg h
theorem updM_ps {f : Int → Ms} {i : Int} {x : Ms} : (fun a => (updM f i x a).ps) = updP (fun a => (f a).ps) i x.ps := by
 funext a; unfold updM updP; split <;> rfl
theorem Rm.keep {w w' : Int → Int} {j i z : Int} (h : Rm C w j i z) (hc : chS (w' (C.chunk j)) = 1 ∧ chC (w' (C.chunk j)) = chC (w (C.chunk j)) ∧ chU (w (C.chunk j)) ≤ chU (w' (C.chunk j)))
  (hw : ∀ x, 0 ≤ x → x < roomOf (classOf z) → w' (C.base j + (i + x)) = w (C.base j + (i + x))) : Rm C w' j i z :=
 ⟨h.cl, h.jb, ⟨h.ib.1, by have := h.ib.2; omega⟩, hc.1, by rw [hc.2.1]; exact h.cc, fun x x0 x1 => by rw [hw x (by omega) x1]; exact h.ze x x0 x1⟩
theorem Ms.fine.keep {w w' : Int → Int} {x : Ms} (h : x.fine C w) (hs : ∀ s, x.ps.has s → w' (C.slot s) = w (C.slot s))
  (hc : ∀ j, 0 ≤ j → j < C.C → chS (w (C.chunk j)) = 1 → 0 < chU (w (C.chunk j)) → chS (w' (C.chunk j)) = 1 ∧ chC (w' (C.chunk j)) = chC (w (C.chunk j)) ∧ chU (w (C.chunk j)) ≤ chU (w' (C.chunk j)))
  (hw : ∀ j i r, x.spot C = some (j, i, r) → 0 ≤ j → j < C.C → 0 ≤ i → i + r ≤ chU (w (C.chunk j)) → ∀ y, 0 ≤ y → y < r → w' (C.base j + (i + y)) = w (C.base j + (i + y))) : x.fine C w' := by
 have rm : ∀ {j i z : Int}, Rm C w j i z → x.spot C = some (j, i, roomOf (classOf z)) → Rm C w' j i z ∧ w' (C.base j + i) = w (C.base j + i) := fun {j i z} q e => by
  have hr := room_bd q.cl (class_bd z).2
  have ww := hw j i _ e q.jb.1 q.jb.2 q.ib.1 q.ib.2
  refine ⟨q.keep (hc j q.jb.1 q.jb.2 q.st (by have := q.ib; omega)) ww, ?_⟩
  have := ww 0 (by omega) (by omega)
  rwa [Int.add_zero] at this
 cases x with
 | no => trivial
 | md s j i z =>
  obtain ⟨h1, h2, h3⟩ := h
  obtain ⟨r1, r2⟩ := rm h1 rfl
  exact ⟨r1, by rw [hs s rfl]; exact h2, by rw [r2]; exact h3⟩
 | wk m =>
  obtain ⟨h0, h⟩ := h
  have hps : ∀ p : m.a.pc ≠ 0, m.a.pc ≠ 7 → (Ms.wk m).ps.has m.a.at' := fun p q => by rw [Ms.ps_wk, if_neg p, if_neg q]; rfl
  refine ⟨h0, ?_⟩
  rcases h with h | ⟨h, h1⟩ | ⟨hg, ⟨h, h1, h2, h3⟩ | ⟨h, h1, h2, h3⟩ | ⟨h1, h2⟩⟩
  ·exact .inl h
  ·exact .inr (.inl ⟨h, by rw [hs _ (hps (by omega) (by omega))]; exact h1⟩)
  ·exact .inr (.inr ⟨hg, .inl ⟨h, by rw [hs _ (hps (by omega) (by omega))]; exact h1, h2, h3⟩⟩)
  ·refine .inr (.inr ⟨hg, .inr (.inl ⟨h, ?_, h2, h3⟩)⟩)
   rw [hs m.a.at' (by rw [Ms.ps_wk, if_neg (by omega), if_pos h]; exact h2)]; exact h1
  ·have p36 : 3 ≤ m.a.pc ∧ m.a.pc ≤ 6 := by omega
   obtain ⟨r1, r2⟩ := rm h1 (by rw [Ms.spot_wk, if_pos p36])
   rw [show C.base m.a.sc + (m.a.sa - C.base m.a.sc) = m.a.sa by omega] at r2
   have hs' := hs _ (hps (by omega) (by omega))
   refine .inr (.inr ⟨hg, .inr (.inr ⟨r1, ?_⟩)⟩)
   rw [hs', r2]; exact h2
theorem Gm.apart (hC : C.ok) {n k : Int} {X : Int → Ms} {F : List Int} {w : Int → Int} (h : Gm C n X F k w) {a b j i r j' i' r' x y : Int} (a0 : 0 ≤ a) (a1 : a < n) (b0 : 0 ≤ b) (b1 : b < n) (hab : a ≠ b)
  (ha : (X a).spot C = some (j, i, r)) (hb : (X b).spot C = some (j', i', r')) (hj : 0 ≤ j ∧ j < C.C) (hj' : 0 ≤ j' ∧ j' < C.C) (hi : 0 ≤ i ∧ i + r ≤ C.W) (hi' : 0 ≤ i' ∧ i' + r' ≤ C.W) (x0 : 0 ≤ x) (x1 : x < r) (y0 : 0 ≤ y) (y1 : y < r') :
  C.base j + (i + x) ≠ C.base j' + (i' + y) := by
 intro e
 obtain ⟨p1, p2⟩ := base_inj hC hj.1 hj.2 (by omega) (by omega) hj'.1 hj'.2 (by omega) (by omega) e
 rcases h.ap a b j i r j' i' r' a0 a1 b0 b1 hab ha hb with q | q | q
 ·exact q p1
 ·omega
 ·omega
theorem Rm.at' (hC : C.ok) {w : Int → Int} {j i z x : Int} (h : Rm C w j i z) (hu : chU (w (C.chunk j)) ≤ C.W) (x0 : 0 ≤ x) (x1 : x < roomOf (classOf z)) :
  (0 ≤ C.base j + (i + x) ∧ C.base j + (i + x) < C.len) ∧ 6 + C.T + 2 * C.S + 3 * C.C ≤ C.base j + (i + x) ∧ ofC C (C.base j + (i + x)) = j := by
 have := h.ib
 have b1 := base_of hC h.jb.1 h.jb.2 (i := i + x) (by omega) (by omega)
 exact ⟨b1.2, base_ge hC h.jb.1 h.jb.2 (by omega), b1.1⟩
theorem Ms.spot_fine {w : Int → Int} {x : Ms} {j i r : Int} (h : x.fine C w) (e : x.spot C = some (j, i, r)) : (0 ≤ j ∧ j < C.C) ∧ (0 ≤ i ∧ i + r ≤ chU (w (C.chunk j))) ∧ 3 ≤ r ∧ r ≤ 17 := by
 cases x with
 | no => cases e
 | md s j i z => cases e; have hr := room_bd h.1.cl (class_bd z).2; exact ⟨h.1.jb, h.1.ib, hr⟩
 | wk m =>
  rw [Ms.spot_wk] at e
  split at e
  ·rename_i p
   cases e
   obtain ⟨_, h | ⟨h, _⟩ | ⟨_, ⟨h, _⟩ | ⟨h, _⟩ | ⟨h1, _⟩⟩⟩ := h
   ·omega
   ·omega
   ·omega
   ·omega
   ·exact ⟨h1.jb, h1.ib, room_bd h1.cl (class_bd _).2⟩
  ·cases e
theorem Gm.one {n k k' : Int} {X : Int → Ms} {F F' : List Int} {w w' : Int → Int} (h : Gm C n X F k w) {a : Int} (a0 : 0 ≤ a) (a1 : a < n) {x' : Ms}
  (sh : Sh (fun a => 0 ≤ a ∧ a < n) C w' (updP (fun a => (X a).ps) a x'.ps) F' k') (hF : ∀ s ∈ F', w' (C.slot s) = frW)
  (ho : ∀ c, 0 ≤ c → c ≤ 3 → w' (2 + c) ≤ C.C) (hub : ∀ j, 0 ≤ j → j < C.C → chU (w' (C.chunk j)) ≤ C.W ∧ (chS (w' (C.chunk j)) = 0 → chU (w' (C.chunk j)) = 0))
  (hnil : ∀ j i, 0 ≤ j → j < C.C → 0 ≤ i → chU (w' (C.chunk j)) ≤ i → i < C.W → w' (C.base j + i) = 0) (hx : x'.fine C w') (hX : ∀ b, 0 ≤ b → b < n → b ≠ a → (X b).fine C w')
  (hap : ∀ b j i r j' i' r', 0 ≤ b → b < n → b ≠ a → x'.spot C = some (j, i, r) → (X b).spot C = some (j', i', r') → j ≠ j' ∨ i + r ≤ i' ∨ i' + r' ≤ i) : Gm C n (updM X a x') F' k' w' := by
 refine ⟨by rw [updM_ps]; exact sh, ho, hub, hnil, hF, fun b b0 b1 => ?_, fun b b2 j i r j2 i2 r2 b0 b1 b20 b21 hbb hb hb2 => ?_⟩
 ·by_cases e : b = a
  ·subst e; rw [updM_same]; exact hx
  ·rw [updM_ne e]; exact hX b b0 b1 e
 ·by_cases e : b = a
  ·subst e; rw [updM_same] at hb; rw [updM_ne (Ne.symm hbb)] at hb2
   exact hap b2 j i r j2 i2 r2 b20 b21 (Ne.symm hbb) hb hb2
  ·rw [updM_ne e] at hb
   by_cases e2 : b2 = a
   ·subst e2; rw [updM_same] at hb2
    rcases hap b j2 i2 r2 j i r b0 b1 e hb2 hb with q | q | q
    ·exact .inl (Ne.symm q)
    ·exact .inr (.inr q)
    ·exact .inr (.inl q)
   ·rw [updM_ne e2] at hb2
    exact h.ap b b2 j i r j2 i2 r2 b0 b1 b20 b21 hbb hb hb2
theorem Gm.word (hC : C.ok) {n k k' : Int} {X : Int → Ms} {F F' : List Int} {w w' : Int → Int} (h : Gm C n X F k w) {a : Int} (a0 : 0 ≤ a) (a1 : a < n) {x' : Ms}
  (sh : Sh (fun a => 0 ≤ a ∧ a < n) C w' (updP (fun a => (X a).ps) a x'.ps) F' k') (hF : ∀ s ∈ F', s ∉ F → w' (C.slot s) = frW)
  (hw : ∀ y, (∃ s, 0 ≤ s ∧ s < C.S ∧ y = C.slot s) ∨ (∃ c, 0 ≤ c ∧ c ≤ 3 ∧ y = 2 + c) ∨ (∃ j, 0 ≤ j ∧ j < C.C ∧ y = C.chunk j) ∨ (∃ j i, 0 ≤ j ∧ j < C.C ∧ 0 ≤ i ∧ i < C.W ∧ y = C.base j + i) → w' y = w y) (hx : x'.fine C w) (hsp : x'.spot C = (X a).spot C ∨ x'.spot C = none)
  (hps : ∀ s, x'.ps.has s → 0 ≤ s ∧ s < C.S) : Gm C n (updM X a x') F' k' w' := by
 have hfre := sh.fre.c.mem
 have wS : ∀ s, 0 ≤ s → s < C.S → w' (C.slot s) = w (C.slot s) := fun s s0 s1 => hw _ (.inl ⟨s, s0, s1, rfl⟩)
 have wC : ∀ j, 0 ≤ j → j < C.C → w' (C.chunk j) = w (C.chunk j) := fun j j0 j1 => hw _ (.inr (.inr (.inl ⟨j, j0, j1, rfl⟩)))
 have wW : ∀ j i, 0 ≤ j → j < C.C → 0 ≤ i → i < C.W → w' (C.base j + i) = w (C.base j + i) := fun j i j0 j1 i0 i1 => hw _ (.inr (.inr (.inr ⟨j, i, j0, j1, i0, i1, rfl⟩)))
 have kf : ∀ {x : Ms}, x.fine C w → (∀ s, x.ps.has s → 0 ≤ s ∧ s < C.S) → x.fine C w' := fun {x} hf hp => by
  refine hf.keep (fun s hs => wS s (hp s hs).1 (hp s hs).2) (fun j j0 j1 e u => by rw [wC j j0 j1]; exact ⟨e, rfl, Int.le_refl _⟩) fun j i r e j0 j1 i0 i1 y y0 y1 => ?_
  have := (h.ub j j0 j1).1
  exact wW j (i + y) j0 j1 (by omega) (by omega)
 refine h.one a0 a1 sh (fun s hs => ?_) (fun c c0 c3 => by rw [hw _ (.inr (.inl ⟨c, c0, c3, rfl⟩))]; exact h.op c c0 c3) (fun j j0 j1 => by rw [wC j j0 j1]; exact h.ub j j0 j1) (fun j i j0 j1 i0 i1 i2 => ?_) (kf hx hps) (fun b b0 b1 _ => kf (h.each b b0 b1) fun s hs => ?_) fun b j i r j' i' r' b0 b1 hb e e' => ?_
 ·by_cases q : s ∈ F
  ·rw [wS s (hfre s hs).1 (hfre s hs).2]; exact h.fr s q
  ·exact hF s hs q
 ·rw [wC j j0 j1] at i1; rw [wW j i j0 j1 i0 i2]; exact h.nil j i j0 j1 i0 i1 i2
 ·have := h.sh.each b ⟨b0, b1⟩
  cases hq : (X b).ps with
  | tk p t => rw [hq] at hs; exact hs.elim
  | gv p g => rw [hq] at hs this; rw [← show g.slot = s from hs]; exact ⟨this.2.1, this.2.2.1⟩
 ·rcases hsp with q | q
  ·rw [q] at e; exact h.ap a b j i r j' i' r' a0 a1 b0 b1 (Ne.symm hb) e e'
  ·rw [q] at e; cases e
end Go.Fl
namespace Go.Fl
open Go
set_option linter.unusedVariables false
set_option linter.unusedSimpArgs false
variable {N : Nm} {A B : Ar} {σ : Mem} {K : Value → Mem → Prop} {C : Cf} {who : Int}
structure CkR (C : Cf) (w w' : Int → Int) : Prop where
 o : ∀ y, (∀ c, 0 ≤ c → c ≤ 3 → y ≠ 2 + c) → (∀ j, 0 ≤ j → j < C.C → y ≠ C.chunk j) → w' y = w y
 c : ∀ j, 0 ≤ j → j < C.C → w' (C.chunk j) = w (C.chunk j) ∨ chU (w (C.chunk j)) = 0 ∧ chU (w' (C.chunk j)) = 0
theorem Pl.fine.chunks (hC : C.ok) {b : Int} (hb : b < 4611686018427387904) (hP : Pa C A b) {t : Pl} (h : t.fine C) (hu : ∀ j, 0 ≤ j → j < C.C → chS (A.w (C.chunk j)) = 0 → chU (A.w (C.chunk j)) = 0) :
  ((t.step C who A).1 = false ∧ (t.step C who A).2.1.fine C ∧ (t.step C who A).2.1.cls = t.cls ∧ CkR C A.w (t.step C who A).2.2.w) ∨
  ((t.step C who A).1 = true ∧ (t.step C who A).2.1.ok = false ∧ CkR C A.w (t.step C who A).2.2.w) ∨
  ((t.step C who A).1 = true ∧ (t.step C who A).2.1.ok = true ∧ ((t.step C who A).2.1.sc = t.at' ∧ (t.step C who A).2.1.sa = C.base t.at' + chU (A.w (C.chunk t.at'))) ∧ (chS (A.w (C.chunk t.at')) = 1 ∧ chC (A.w (C.chunk t.at')) = t.cls ∧ chU (A.w (C.chunk t.at')) + roomOf t.cls ≤ C.W) ∧
   ∃ x, (t.step C who A).2.2.w = upd A.w (C.chunk t.at') (putChunk 1 t.cls (chU (A.w (C.chunk t.at')) + roomOf t.cls) x)) := by
 obtain ⟨gP, g, _⟩ := Pl.go (who := who) hC hb hP h.fit
 have hok := hP.ok
 have hf := h.fit
 have hcls := hf.cls
 have hat := hf.at'
 have same : CkR C A.w A.w := ⟨fun _ _ _ => rfl, fun _ _ _ => .inl rfl⟩
 have put : ∀ v v', (A.w (C.chunk t.at') = v → chU v = 0 ∧ chU v' = 0) → CkR C A.w ((A.by who).cas (C.chunk t.at') v v').w := by
  intro v v' hv
  rw [(aft_cas (who := who) (a := C.chunk t.at') (o := v) (v := v') hok (by omega)).w]
  split
  ·rename_i e
   refine ⟨fun y _ hy => upd_ne _ _ (hy _ hat.1 hat.2), fun j j0 j1 => ?_⟩
   by_cases q : j = t.at'
   ·subst q; rw [upd_same, e]; exact .inr (hv e)
   ·rw [upd_ne _ _ (fun x => q (chunk_inj x))]; exact .inl rfl
  ·exact same
 have fr : chU t.fresh = 0 := by unfold Pl.fresh; exact (ch_put' (by decide) (by omega) (by decide)).2.2
 by_cases c0 : t.pc = 0
 ·by_cases e : IntKind.i64.wrap (A.w (2 + t.cls)) - 1 < 0
  ·rw [Pl.s0a c0 e] at g ⊢
   exact .inl ⟨rfl, ⟨g rfl, h.ok, (fun q => by cases q), (fun q => by cases q)⟩, rfl, same⟩
  ·rw [Pl.s0b c0 e] at g ⊢
   exact .inl ⟨rfl, ⟨g rfl, h.ok, (fun q => by cases q), (fun q => by cases q)⟩, rfl, same⟩
 by_cases c1 : t.pc = 1
 ·by_cases e : chS (A.w (C.chunk t.at')) ≠ 1 ∨ chC (A.w (C.chunk t.at')) ≠ t.cls ∨ C.W < chU (A.w (C.chunk t.at')) + roomOf t.cls
  ·rw [Pl.s1a c1 e] at g ⊢
   exact .inl ⟨rfl, ⟨g rfl, h.ok, (fun q => by cases q), (fun q => by cases q)⟩, rfl, same⟩
  ·rw [Pl.s1b c1 e] at g ⊢
   refine .inl ⟨rfl, ⟨g rfl, h.ok, fun _ => ?_, (fun q => by cases q)⟩, rfl, same⟩
   show chS (A.w (C.chunk t.at')) = 1 ∧ chC (A.w (C.chunk t.at')) = t.cls ∧ chU (A.w (C.chunk t.at')) + roomOf t.cls ≤ C.W
   omega
 by_cases c2 : t.pc = 2
 ·by_cases e : A.w (C.chunk t.at') = t.w
  ·obtain ⟨z1, z2, z3⟩ := h.see c2
   rw [Pl.s2a c2 e]
   refine .inr (.inr ⟨rfl, rfl, ⟨rfl, by rw [e]⟩, by rw [e]; exact ⟨z1, z2, z3⟩, chN t.w, ?_⟩)
   show ((A.by who).cas (C.chunk t.at') t.w _).w = _
   rw [(aft_cas (who := who) (a := C.chunk t.at') (o := t.w) hok (by omega)).w, if_pos e, z1, z2, e]
  ·rw [Pl.s2b c2 e] at g ⊢
   exact .inl ⟨rfl, ⟨g rfl, h.ok, (fun q => by cases q), (fun q => by cases q)⟩, rfl, put _ _ (fun q => absurd q e)⟩
 by_cases c3 : t.pc = 3
 ·by_cases e : chS (A.w (C.chunk t.at')) ≠ 0
  ·rw [Pl.s3a c3 e] at g ⊢
   by_cases d : C.C ≤ t.at' + 1
   ·exact .inr (.inl ⟨decide_eq_true d, h.ok, same⟩)
   ·exact .inl ⟨decide_eq_false d, ⟨g (decide_eq_false d), h.ok, (fun q => by cases q), (fun q => by cases q)⟩, rfl, same⟩
  ·have e' : chS (A.w (C.chunk t.at')) = 0 := by omega
   rw [Pl.s3b c3 e'] at g ⊢
   exact .inl ⟨rfl, ⟨g rfl, h.ok, (fun q => by cases q), fun _ => e'⟩, rfl, same⟩
 by_cases c4 : t.pc = 4
 ·by_cases e : A.w (C.chunk t.at') = t.w
  ·rw [Pl.s4a c4 e] at g ⊢
   refine .inl ⟨rfl, ⟨g rfl, h.ok, (fun q => by cases q), (fun q => by cases q)⟩, rfl, put _ _ fun q => ⟨?_, fr⟩⟩
   have := hu _ hat.1 hat.2
   rw [e] at this; exact this (h.take c4)
  ·rw [Pl.s4b c4 e] at g ⊢
   by_cases d : C.C ≤ t.at' + 1
   ·exact .inr (.inl ⟨decide_eq_true d, h.ok, put _ _ fun q => absurd q e⟩)
   ·exact .inl ⟨decide_eq_false d, ⟨g (decide_eq_false d), h.ok, (fun q => by cases q), (fun q => by cases q)⟩, rfl, put _ _ fun q => absurd q e⟩
 by_cases c5 : t.pc = 5
 ·have hw : CkR C A.w ((A.by who).cas (2 + t.cls) t.opn (t.at' + 1)).w := by
   rw [(aft_cas (who := who) (a := 2 + t.cls) (o := t.opn) (v := t.at' + 1) hok (by omega)).w]
   split
   ·exact ⟨fun y hy _ => upd_ne _ _ (hy _ hcls.1 hcls.2), fun j j0 j1 => .inl (upd_ne _ _ (chunk_ne hC j0 hcls.2))⟩
   ·exact same
  by_cases e : A.w (2 + t.cls) = t.opn
  ·rw [Pl.s5a c5 e] at g ⊢
   exact .inl ⟨rfl, ⟨g rfl, h.ok, (fun q => by cases q), (fun q => by cases q)⟩, rfl, hw⟩
  ·rw [Pl.s5b c5 e] at g ⊢
   exact .inl ⟨rfl, ⟨g rfl, h.ok, (fun q => by cases q), (fun q => by cases q)⟩, rfl, hw⟩
 ·rw [Pl.s6 c0 c1 c2 c3 c4 c5] at g ⊢
  exact .inl ⟨rfl, ⟨g rfl, h.ok, (fun q => by cases q), (fun q => by cases q)⟩, rfl, put _ _ fun _ => ⟨fr, (ch_put' (by decide) (by decide) (by decide)).2.2⟩⟩
section
variable {n k a bb : Int} {X : Int → Ms} {F : List Int} {m : Am}
theorem Gm.fit (hC : C.ok) (h : Gm C n X F k A.w) (hP : Pa C A bb) (a0 : 0 ≤ a) (a1 : a < n) (hX : X a = .wk m) : m.fit C A := by
 have hf := h.each a a0 a1
 have hs := h.sh.each a ⟨a0, a1⟩
 rw [hX] at hf hs
 obtain ⟨⟨hcl, _, hpc⟩, hf⟩ := hf
 rw [Ms.ps_wk] at hs
 have hcl' := class_bd m.a.size
 refine ⟨hpc, fun p => ?_, fun _ => hcl, fun p => ?_, fun p => ?_, fun p3 p6 => ?_, fun p => ?_⟩
 ·rw [if_pos p] at hs
  obtain ⟨q1, q2, q3, q4⟩ := hs
  refine ⟨q1, fun e => ?_, q2⟩
  rcases q4 with q4 | ⟨_, q5, q6, _⟩
  ·omega
  ·exact ⟨q5, q6⟩
 ·rw [if_neg p] at hs
  by_cases p7 : m.a.pc = 7
  ·rw [if_pos p7] at hs
   rcases hf with q | ⟨q, _⟩ | ⟨_, ⟨q, _⟩ | ⟨_, _, q, _⟩ | ⟨_, q⟩⟩
   ·omega
   ·omega
   ·omega
   ·rw [← q]; exact ⟨hs.2.1, hs.2.2.1⟩
   ·omega
  ·rw [if_neg p7] at hs; exact ⟨hs.2.1, hs.2.2.1⟩
 ·rcases hf with q | ⟨q, _⟩ | ⟨_, ⟨_, _, q, q'⟩ | ⟨q, _⟩ | ⟨_, q⟩⟩
  ·omega
  ·omega
  ·exact ⟨q.fit, hP.op _ (by rw [q']; exact hcl) (by rw [q']; exact hcl'.2)⟩
  ·omega
  ·omega
 ·rcases hf with q | ⟨q, _⟩ | ⟨_, ⟨q, _⟩ | ⟨q, _⟩ | ⟨q, _⟩⟩
  ·omega
  ·omega
  ·omega
  ·omega
  ·have hr := room_bd hcl hcl'.2
   have := q.at' hC (h.ub _ q.jb.1 q.jb.2).1 (x := 0) (by omega) (by omega)
   have := hP.n
   exact ⟨q.jb, by omega, by omega⟩
 ·rw [if_neg (by omega), if_pos p] at hs
  exact ⟨hs.1, hs.2.1, hs.2.2.1⟩
end
end Go.Fl
