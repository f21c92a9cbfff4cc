/- What the claim leans on, part 6: own readings of the program's functions, what they come to, laws of them. No condition. -/
import Derived.Test.YtehbccbhiaflgaaZDropAlone5
namespace Go.Fl
open Go
set_option linter.unusedVariables false
set_option linter.unusedSimpArgs false
variable {N : Nm} {A B : Ar} {σ τ : Mem} {K : Value → Mem → Prop} {C : Cf} {who : Int}
structure Rw4 (σ : Mem) (N : Nm) (τ : Mem) (p0 p1 p2 p3 : Nat) (n : Nat) (dd : Int → Do) (li : Int → Bool) : Prop where
  g0 : τ.get p0 = some ⟨cells .u64 n (fun k => (dd k).n), true⟩
  g1 : τ.get p1 = some ⟨cellsB n li, true⟩
  g2 : τ.get p2 = some ⟨cellsB n (fun k => (dd k).own), true⟩
  g3 : τ.get p3 = some ⟨cells .i64 n (fun k => (dd k).z), true⟩
  d0 : p0 ∉ N.l ∧ σ.get p0 = none
  d1 : p1 ∉ N.l ∧ σ.get p1 = none
  d2 : p2 ∉ N.l ∧ σ.get p2 = none
  d3 : p3 ∉ N.l ∧ σ.get p3 = none
  n0 : p0 ≠ p1 ∧ p0 ≠ p2 ∧ p0 ≠ p3
  n1 : p1 ≠ p2 ∧ p1 ≠ p3
  n2 : p2 ≠ p3
theorem Rw4.keep {p0 p1 p2 p3 n : Nat} {dd : Int → Do} {li : Int → Bool} {τ' : Mem} (h : Rw4 σ N τ p0 p1 p2 p3 n dd li) (k : Keep N.l τ τ') : Rw4 σ N τ' p0 p1 p2 p3 n dd li :=
  ⟨k.get h.g0 h.d0.1, k.get h.g1 h.d1.1, k.get h.g2 h.d2.1, k.get h.g3 h.d3.1, h.d0, h.d1, h.d2, h.d3, h.n0, h.n1, h.n2⟩
theorem app_one {p n by' q : Nat} {x : Value} {L : List Value} (hA : isA N A τ) (hE : Ext σ τ) (hp : p ∉ N.l ∧ σ.get p = none) (h : τ.get p = some ⟨L, true⟩) (hn : L.length = n) (hb : by' ≤ 1024) (hx : oneB x = true) (hl : n < 1073741823)
    (hk : ∀ id τ', id ∉ N.l ∧ σ.get id = none → isA N A τ' → Ext σ τ' → τ'.get id = some ⟨L ++ [x], true⟩ → (∀ r c, r ≠ p → τ.get r = some c → r ≠ id ∧ τ'.get r = some c) → K (.slice (some ⟨id, 0, none⟩) (n + 1) 1) τ') :
    hAppendL 1 by' [x] [.slice (some ⟨p, 0, none⟩) n 1, locS q 1 1] K τ := by
  refine hAppendL_i (pre := []) (L := L) h rfl hn hb hx hl fun id τ' hid g k => ?_
  have hd := hA.new hid
  have hnn := notin hp.1
  refine hk id τ' ⟨hd, hE.none hid⟩ (hA.keep k (by simp; exact ⟨hnn.1.symm, hnn.2.1.symm, hnn.2.2.symm⟩)) (hE.keep' k fun i hi => by simp at hi; rw [hi]; exact hp.2) g fun r c hr hc => ⟨?_, k.get hc (by simpa using hr)⟩
  rintro rfl; rw [hid] at hc; cases hc
theorem Dl.wdb {i wd : Int} {n : Nat} {dd : Int → Do} {li : Int → Bool} {w : Int → Int} {b : Bg} (h : Dl C i n dd li wd w b) (h8 : C.C = 8) : 0 ≤ wd ∧ wd ≤ 136 * i := by
  have l := fun (j : Int) (j0 : 0 ≤ j) (j1 : j < 8) => h.lv.lv j j0 (by omega)
  have := l 0 (by decide) (by decide); have := l 1 (by decide) (by decide); have := l 2 (by decide) (by decide); have := l 3 (by decide) (by decide)
  have := l 4 (by decide) (by decide); have := l 5 (by decide) (by decide); have := l 6 (by decide) (by decide); have := l 7 (by decide) (by decide)
  rw [h.tot]; unfold sum8; omega
theorem law_DropAlone (σ : Mem) (s : Value) (len : Nat) (cs : List Value) (sl : Sl σ 4 len cs s) (hm : len ≤ maxLen) (hf : FlatL (List.replicate len [some .i64, some .i64, some .i64, none]).flatten cs) :
    s_law09_DropAlone [s] (fun v _ => v = .bool true) σ := by
  have hg := sl.argS
  obtain ⟨q, hq⟩ := acts4 hf
  simp only [s_law09_DropAlone, w_law09_DropAlone, ruS, ruL, ruE, Nat.reduceAdd, reduceIte, Int.reduceLT, Int.reduceLE, Int.reduceEq, Int.reduceNeg, Int.reduceAdd, Int.reduceSub, Nat.reduceLeDiff, Nat.reduceLT]
  have hC : (cA 1 8 8 40).ok := cA_ok (by omega) (by omega) (by omega) (by omega)
  refine c_Arena (C := cA 1 8 8 40) hC rfl rfl rfl fun N A τ hN hF hA hE hfr => ?_
  have hS : (cA 1 8 8 40).S = 8 := rfl
  have hC8 : (cA 1 8 8 40).C = 8 := rfl
  have hW : (cA 1 8 8 40).W = 40 := rfl
  have hG : (cA 1 8 8 40).G = 100 := rfl
  have hP := (hF.pa hC).mono (show 2 * (cA 1 8 8 40).S + 2 ≤ 200 by decide)
  have hAw := hF.aw hC
  have st0 : ∀ dd li, Dl (cA 1 8 8 40) 0 0 dd li 0 A.w (Bg.fr (cA 1 8 8 40)) := by
    intro dd li
    refine ⟨hAw, fr_lv, fun s s0 s1 => ?_, fun k k0 k1 => by omega, fun k k0 k1 => by omega, fun k k0 k1 => by omega, fun k l k0 k1 => by omega, fun j j0 j1 => Int.le_refl 0, rfl, Int.le_refl 0⟩
    have : A.w ((cA 1 8 8 40).slot s) = putSlot 0 0 1 0 := by
      rw [hF.w]
      have hT := hC.T
      unfold Cf.w0 Cf.fr
      rw [if_neg (by unfold Cf.slot; omega), if_neg (by unfold Cf.slot; omega), if_pos (by unfold Cf.slot; omega), if_pos (by unfold Cf.slot; omega)]
    rw [this]; decide
  generalize hCe : cA 1 8 8 40 = C at *
  clear hF
  simp only [c_awake9, gStoreE, w_law09_DropAlone_j1, w_law09_DropAlone_j1b, ruS, ruL, ruE, Nat.reduceAdd, reduceIte, Int.reduceLT, Int.reduceLE, Int.reduceEq, Int.reduceNeg, Int.reduceAdd, Int.reduceSub, Nat.reduceLeDiff, Nat.reduceLT]
  have f0 : ∀ (x y z w : Value) (K : Value → Prop), xF (fFldV 0 1 false) [.agg #[x, y, z, w]] K = K x := fun _ _ _ _ K => nr rfl
  have gU : ∀ {k : Nat} {x y z w : Int}, gStore 4 [.pointer (some ⟨k, 0, some 0⟩), .agg #[.int .i64 x, .int .u64 y, .int .i64 z, .int .i64 w]] [.int .i64 0, .int .u64 0, .int .i64 0, .int .i64 0] = some [.int .i64 x, .int .u64 y, .int .i64 z, .int .i64 w] := fun {_ _ _ _ _} => rfl
  have gI : ∀ {k : Nat} {x y z w : Int}, gStore 4 [.pointer (some ⟨k, 0, some 0⟩), .agg #[.int .i64 x, .int .i64 y, .int .i64 z, .int .i64 w]] [.int .i64 0, .int .i64 0, .int .i64 0, .int .i64 0] = some [.int .i64 x, .int .i64 y, .int .i64 z, .int .i64 w] := fun {_ _ _ _ _} => rfl
  have gA : ∀ {k : Nat} {x y z : Int} {w : Bool}, gStore 4 [.pointer (some ⟨k, 0, some 0⟩), .agg #[.int .i64 x, .int .i64 y, .int .i64 z, .bool w]] [.int .i64 0, .int .i64 0, .int .i64 0, .bool false] = some [.int .i64 x, .int .i64 y, .int .i64 z, .bool w] := fun {_ _ _ _ _} => rfl
  have g2 : ∀ {k : Nat} {x y : Int}, gStore 2 [.pointer (some ⟨k, 0, some 0⟩), .agg #[.int .i64 x, .int .i64 y]] [.int .i64 0, .int .i64 0] = some [.int .i64 x, .int .i64 y] := fun {_ _ _} => rfl
  have bu : ∀ {x : Int}, gBuildS 1 1 [.int .u64 0] [0] [.int .u64 x] [] = some [.int .u64 x] := fun {_} => rfl
  have bi : ∀ {x : Int}, gBuildS 1 1 [.int .i64 0] [0] [.int .i64 x] [] = some [.int .i64 x] := fun {_} => rfl
  have bb : ∀ {x : Bool}, gBuildS 1 1 [.bool false] [0] [.bool x] [] = some [.bool x] := fun {_} => rfl
  refine hBuildS_i [] rfl fun p0 τ0 m0 h0 x0 => ?_
  refine hBuildS_i [] rfl fun p1 τ1 m1 h1 x1 => ?_
  refine hBuildS_i [] rfl fun p2 τ2 m2 h2 x2 => ?_
  refine hBuildS_i [] rfl fun p3 τ3 m3 h3 x3 => ?_
  have hA0 := hA.ext x0
  have hA1 := hA0.ext x1
  have hA2 := hA1.ext x2
  have hA3 := hA2.ext x3
  have e0 := hE.trans x0
  have e1 := e0.trans x1
  have e2 := e1.trans x2
  have e3 := e2.trans x3
  have dflt : ∃ (dd : Int → Do) (li : Int → Bool), True := ⟨fun _ => ⟨0, 0, 0, false, 0, 0⟩, fun _ => false, trivial⟩
  obtain ⟨dd, li, -⟩ := dflt
  have r0 : Rw4 σ N τ3 p0 p1 p2 p3 0 dd li := by
    refine ⟨x3 _ _ (x2 _ _ (x1 _ _ h0)), x3 _ _ (x2 _ _ h1), x3 _ _ h2, h3, ⟨hA.new m0, hE.none m0⟩, ⟨hA0.new m1, e0.none m1⟩, ⟨hA1.new m2, e1.none m2⟩, ⟨hA2.new m3, e2.none m3⟩, ⟨?_, ?_, ?_⟩, ⟨?_, ?_⟩, ?_⟩
    · rintro rfl; rw [h0] at m1; cases m1
    · rintro rfl; rw [x1 _ _ h0] at m2; cases m2
    · rintro rfl; rw [x2 _ _ (x1 _ _ h0)] at m3; cases m3
    · rintro rfl; rw [h1] at m2; cases m2
    · rintro rfl; rw [x2 _ _ h1] at m3; cases m3
    · rintro rfl; rw [h2] at m3; cases m3
  refine xLoop_r (fun x ts ls τ => ∃ (i : Int) (n : Nat) (dd : Int → Do) (li : Int → Bool) (wd : Int) (A : Ar) (b : Bg) (p0 p1 p2 p3 : Nat), x = (60 - i).toNat ∧ ts = [s, .slice (some ⟨p0, 0, none⟩) n 1, .slice (some ⟨p1, 0, none⟩) n 1, .slice (some ⟨p2, 0, none⟩) n 1, .slice (some ⟨p3, 0, none⟩) n 1, .int .i64 wd, .int .i64 i] ∧ ls = [N.el C 0] ∧ 0 ≤ i ∧ i ≤ 60 ∧
    isA N A τ ∧ Pa C A (1000 + 200 * i) ∧ Dl C i n dd li wd A.w b ∧ Rw4 σ N τ p0 p1 p2 p3 n dd li ∧ Ext σ τ) ?_ (n := (60 - 0 : Int).toNat) ⟨0, 0, dd, li, 0, A, Bg.fr C, p0, p1, p2, p3, rfl, rfl, rfl, by omega, by omega, hA3, hP.mono (by omega), st0 dd li, r0, e3⟩
  clear r0 st0 hA0 hA1 hA2 hA3 e0 e1 e2 e3 m0 m1 m2 m3 h0 h1 h2 h3 x0 x1 x2 x3 hP hAw hA dd li
  rintro x ts ls τ1 ⟨i, n, dd, li, wd, A1, b, p0, p1, p2, p3, rfl, rfl, rfl, i0, i1, hA1, hP1, hI, rw1, ext1⟩ R hR
  have hg1 := hg.keep ext1
  have hln := len_bd hC
  have hnn := hP1.n
  have hwd := hI.wdb hC8
  have hnle := hI.nle
  have hT := hC.T
  have fin : w_law09_DropAlone_j2 (fun v _ => v = .bool true) [.int .i64 wd] [N.el C 0] τ1 := by
    simp only [w_law09_DropAlone_j2, w_law09_DropAlone_j2b, ruS, ruL, ruE, Nat.reduceAdd, reduceIte, Int.reduceLT, Int.reduceLE, Int.reduceEq, Int.reduceNeg, Int.reduceAdd, Int.reduceSub, Nat.reduceLeDiff, Nat.reduceLT]
    refine xLoop_r (fun x ts ls υ => ∃ j sm, x = (8 - j).toNat ∧ ts = [.int .i64 wd, .int .i64 sm, .int .i64 j] ∧ ls = [N.el C 0] ∧ 0 ≤ j ∧ j ≤ 8 ∧ υ = τ1 ∧ sm = sumN b.lv j.toNat ∧ 0 ≤ sm ∧ sm ≤ 1020 * j) ?_ (n := (8 - 0 : Int).toNat)
      ⟨0, 0, rfl, rfl, rfl, by omega, by omega, rfl, rfl, by omega, by omega⟩
    rintro x ts ls υ ⟨j, sm, rfl, rfl, rfl, j0, j1, rfl, hs, s0, s1⟩ R2 hR2
    simp only [w_law09_DropAlone_l31, w_law09_DropAlone_l31b, hC8, ruS, ruL, ruE, Nat.reduceAdd, reduceIte, Int.reduceLT, Int.reduceLE, Int.reduceEq, Int.reduceNeg, Int.reduceAdd, Int.reduceSub, Nat.reduceLeDiff, Nat.reduceLT]
    by_cases cj : j < 8
    · have hcc : 0 ≤ C.chunk j + 1 ∧ C.chunk j + 1 < A1.n ∧ C.chunk j + 1 < 1000 := by unfold Cf.chunk at *; omega
      have hb := hI.lv.lv j j0 (by omega)
      rw [if_pos cj, c_Chunk hC j0 (by omega)]
      simp only [ruS, ruL, ruE, Nat.reduceAdd, reduceIte, Int.reduceLT, Int.reduceLE, Int.reduceEq, Int.reduceNeg, Int.reduceAdd, Int.reduceSub, Nat.reduceLeDiff, Nat.reduceLT]
      rw [IntWalk.i64_in (C.chunk j + 1) (by omega), c_PeekA hN hA1 hcc.1 hcc.2.1]
      simp only [ruS, ruL, ruE, Nat.reduceAdd, reduceIte, Int.reduceLT, Int.reduceLE, Int.reduceEq, Int.reduceNeg, Int.reduceAdd, Int.reduceSub, Nat.reduceLeDiff, Nat.reduceLT]
      rw [hI.aw.live j j0 (by omega), IntWalk.i64_in (b.lv j) (by omega), IntWalk.i64_in (sm + b.lv j) (by omega), IntWalk.i64_in (j + 1) (by omega)]
      refine hR2 (8 - (j + 1)).toNat _ _ _ (by omega) ⟨j + 1, sm + b.lv j, rfl, rfl, rfl, by omega, by omega, rfl, ?_, by omega, by omega⟩
      rw [show (j + 1).toNat = j.toNat + 1 by omega, hs]
      show _ = sumN b.lv j.toNat + b.lv (j.toNat : Int)
      rw [show (j.toNat : Int) = j by omega]
    · rw [if_neg cj]
      have hj8 : j = 8 := by omega
      subst hj8
      have : sm = wd := by
        rw [hs, hI.tot]
        show 0 + b.lv 0 + b.lv 1 + b.lv 2 + b.lv 3 + b.lv 4 + b.lv 5 + b.lv 6 + b.lv 7 = sum8 b.lv
        unfold sum8; omega
      simp only [w_law09_DropAlone_j3, w_law09_DropAlone_j3b, this, ruS, ruL, ruE, Nat.reduceAdd, reduceIte, Int.reduceLT, Int.reduceLE, Int.reduceEq, Int.reduceNeg, Int.reduceAdd, Int.reduceSub, Nat.reduceLeDiff, Nat.reduceLT]
  simp only [w_law09_DropAlone_l8, w_law09_DropAlone_l8b, hg1.len, ruS, ruL, ruE, Nat.reduceAdd, reduceIte, Int.reduceLT, Int.reduceLE, Int.reduceEq, Int.reduceNeg, Int.reduceAdd, Int.reduceSub, Nat.reduceLeDiff, Nat.reduceLT]
  by_cases c1 : i < len
  rotate_left
  · simp only [c1, ruS, ruL, ruE, Nat.reduceAdd, reduceIte, Int.reduceLT, Int.reduceLE, Int.reduceEq, Int.reduceNeg, Int.reduceAdd, Int.reduceSub, Nat.reduceLeDiff, Nat.reduceLT]; exact fin
  by_cases c2 : i < 60
  rotate_left
  · simp only [c1, c2, ruS, ruL, ruE, Nat.reduceAdd, reduceIte, Int.reduceLT, Int.reduceLE, Int.reduceEq, Int.reduceNeg, Int.reduceAdd, Int.reduceSub, Nat.reduceLeDiff, Nat.reduceLT]; exact fin
  clear fin
  obtain ⟨q0, q1, q2, q3⟩ := hq i.toNat (by omega)
  simp only [c1, c2, w_law09_DropAlone_j4, w_law09_DropAlone_j4b, ruS, ruL, ruE, Nat.reduceAdd, reduceIte, Int.reduceLT, Int.reduceLE, Int.reduceEq, Int.reduceNeg, Int.reduceAdd, Int.reduceSub, Nat.reduceLeDiff, Nat.reduceLT]
  rw [hg1.ix i0 c1, take4 q0 q1 q2 q3]
  generalize (q i.toNat).1 = kd at *
  generalize (q i.toNat).2.1 = at' at *
  generalize (q i.toNat).2.2.1 = z at *
  generalize (q i.toNat).2.2.2 = o at *
  have j5 : ∀ (n' : Nat) (dd' : Int → Do) (li' : Int → Bool) (wd' : Int) (A' : Ar) (b' : Bg) (p0 p1 p2 p3 : Nat) τ', isA N A' τ' → Pa C A' (1000 + 200 * i + 100) → Dl C (i + 1) n' dd' li' wd' A'.w b' → Rw4 σ N τ' p0 p1 p2 p3 n' dd' li' → Ext σ τ' →
      w_law09_DropAlone_j5 (fun v x => v = Value.bool true) (w_law09_DropAlone_j2 fun v x => v = Value.bool true) R [s, .slice (some ⟨p0, 0, none⟩) n' 1, .slice (some ⟨p1, 0, none⟩) n' 1, .slice (some ⟨p2, 0, none⟩) n' 1, .slice (some ⟨p3, 0, none⟩) n' 1, .int .i64 wd', .int .i64 i] [N.el C 0] τ' := by
    intro n' dd' li' wd' A' b' p0 p1 p2 p3 τ' a1 a2 a3 a4 a5
    simp only [w_law09_DropAlone_j5, w_law09_DropAlone_j5b, ruS, ruL, ruE, Nat.reduceAdd, reduceIte, Int.reduceLT, Int.reduceLE, Int.reduceEq, Int.reduceNeg, Int.reduceAdd, Int.reduceSub, Nat.reduceLeDiff, Nat.reduceLT]
    rw [IntWalk.i64_in (i + 1) (by omega)]
    exact hR (60 - (i + 1)).toNat _ _ _ (by omega) ⟨i + 1, n', dd', li', wd', A', b', p0, p1, p2, p3, rfl, rfl, rfl, by omega, by omega, a1, a2.mono (by omega), a3, a4, a5⟩
  have mk : w_law09_DropAlone_j6 (fun v x => v = Value.bool true) (w_law09_DropAlone_j2 fun v x => v = Value.bool true) R (w_law09_DropAlone_j5 (fun v x => v = Value.bool true) (w_law09_DropAlone_j2 fun v x => v = Value.bool true) R)
      [s, .slice (some ⟨p0, 0, none⟩) n 1, .slice (some ⟨p1, 0, none⟩) n 1, .slice (some ⟨p2, 0, none⟩) n 1, .slice (some ⟨p3, 0, none⟩) n 1, .int .i64 wd, .int .i64 i, .bool true] [N.el C 0, [.int .i64 kd, .int .i64 at', .int .i64 z, .bool o]] τ1 := by
    simp only [w_law09_DropAlone_j6, w_law09_DropAlone_j6b, andI15, ruS, ruL, ruE, Nat.reduceAdd, reduceIte, Int.reduceLT, Int.reduceLE, Int.reduceEq, Int.reduceNeg, Int.reduceAdd, Int.reduceSub, Nat.reduceLeDiff, Nat.reduceLT]
    have hz16 : 1 ≤ 1 + z % 16 ∧ 1 + z % 16 ≤ 16 := by omega
    generalize 1 + z % 16 = y at hz16
    rw [IntWalk.i64_in y (by omega)]
    have hcl : 0 ≤ classOf y := by unfold classOf; (repeat' split) <;> omega
    refine c_MakeA hN hC hA1 hP1 (by omega) hI.aw (hI.lv.ok (by omega)) hcl fun m A2 τ2 hD hP2 hA2 k2 => ?_
    have ext2 := ext1.keep' k2 hfr.all
    have rw2 := rw1.keep k2
    simp only [gU, ruS, ruL, ruE, Nat.reduceAdd, reduceIte, Int.reduceLT, Int.reduceLE, Int.reduceEq, Int.reduceNeg, Int.reduceAdd, Int.reduceSub, Nat.reduceLeDiff, Nat.reduceLT]
    by_cases e : m.a.oE = 0
    · simp only [e, bu, bi, bb, ruS, ruL, ruE, Nat.reduceAdd, reduceIte, Int.reduceLT, Int.reduceLE, Int.reduceEq, Int.reduceNeg, Int.reduceAdd, Int.reduceSub, Nat.reduceLeDiff, Nat.reduceLT]
      obtain ⟨s', F, hF', j, b', hg', hj, hu, eH, haw, w1, w2, w3⟩ : ∃ s F, b.F = s :: F ∧ ∃ j b', Got C b F (classOf y) j b' ∧ (0 ≤ j ∧ j < C.C) ∧ (0 ≤ b.u j ∧ b.u j + roomOf (classOf y) ≤ b'.u j ∧ b'.u j ≤ C.W) ∧ m.a.oH = putHandle s (slG (A1.w (C.slot s))) ∧ (b'.count j (roomOf (classOf y))).aw C A2.w ∧
          A2.w (C.slot s) = putSlot 1 (C.base j + b.u j) (slG (A1.w (C.slot s))) 0 ∧ A2.w (C.base j + b.u j) = putHead 2 y s (slG (A1.w (C.slot s))) o ∧ ∀ x, 1 ≤ x → x < roomOf (classOf y) → A2.w (C.base j + (b.u j + x)) = 0 := by
        rcases hD.r with ⟨h, _⟩ | ⟨s', F, hF', ⟨h, _⟩ | ⟨_, _, h⟩⟩
        · omega
        · omega
        · exact ⟨s', F, hF', h⟩
      have fwt : Fw C b True A1.w A2.w := ⟨fun t t0 t1 h => hD.fw.slot t t0 t1 fun _ => h trivial, hD.fw.word⟩
      have hI2 := hI.make hC hC8 (by omega) hF' hcl hg' haw w1 w2 fwt
      have en : (addD dd n (Do.mk' C b s' (slG (A1.w (C.slot s'))) y o j) n).n = m.a.oH := by rw [eH]; unfold addD; rw [if_pos rfl]; rfl
      have eo : (addD dd n (Do.mk' C b s' (slG (A1.w (C.slot s'))) y o j) n).own = o := by unfold addD; rw [if_pos rfl]; rfl
      have ez : (addD dd n (Do.mk' C b s' (slG (A1.w (C.slot s'))) y o j) n).z = y := by unfold addD; rw [if_pos rfl]; rfl
      have el : updB li n true n = true := if_pos rfl
      have aO : ∀ k : Int, 0 ≤ k → k < n → addD dd n (Do.mk' C b s' (slG (A1.w (C.slot s'))) y o j) k = dd k := fun k _ hk => if_neg (by omega)
      have lO : ∀ k : Int, 0 ≤ k → k < n → updB li n true k = li k := fun k _ hk => if_neg (by omega)
      generalize addD dd n (Do.mk' C b s' (slG (A1.w (C.slot s'))) y o j) = dd' at *
      generalize updB li n true = li' at *
      refine app_one hA2 ext2 rw2.d0 rw2.g0 (cells_len _ _ _) (by decide) rfl (by omega) fun i0' τ3 d0 hA3 ext3 g0 kp => ?_
      have hg1 := kp _ _ rw2.n0.1.symm rw2.g1
      have hg2 := kp _ _ rw2.n0.2.1.symm rw2.g2
      have hg3 := kp _ _ rw2.n0.2.2.symm rw2.g3
      clear kp
      refine app_one hA3 ext3 rw2.d1 hg1.2 cellsB_len (by decide) rfl (by omega) fun i1' τ4 d1 hA4 ext4 g1 kp => ?_
      have hh0 := kp _ _ hg1.1.symm g0
      have hh2 := kp _ _ rw2.n1.1.symm hg2.2
      have hh3 := kp _ _ rw2.n1.2.symm hg3.2
      clear kp
      refine app_one hA4 ext4 rw2.d2 hh2.2 cellsB_len (by decide) rfl (by omega) fun i2' τ5 d2 hA5 ext5 g2' kp => ?_
      have hj0 := kp _ _ hg2.1.symm hh0.2
      have hj1 := kp _ _ hh2.1.symm g1
      have hj3 := kp _ _ rw2.n2.symm hh3.2
      clear kp
      refine app_one hA5 ext5 rw2.d3 hj3.2 (cells_len _ _ _) (by decide) rfl (by omega) fun i3' τ6 d3 hA6 ext6 g3 kp => ?_
      have hk0 := kp _ _ hg3.1.symm hj0.2
      have hk1 := kp _ _ hh3.1.symm hj1.2
      have hk2 := kp _ _ hj3.1.symm g2'
      clear kp
      refine c_Class ?_
      have hr := room_bd hcl (class_bd y).2
      rw [c_Room hcl (class_bd y).2]
      simp only [ruS, ruL, ruE, Nat.reduceAdd, reduceIte, Int.reduceLT, Int.reduceLE, Int.reduceEq, Int.reduceNeg, Int.reduceAdd, Int.reduceSub, Nat.reduceLeDiff, Nat.reduceLT]
      rw [IntWalk.i64_in (wd + roomOf (classOf y)) (by omega)]
      refine j5 (n + 1) dd' li' _ A2 _ i0' i1' i2' i3' τ6 hA6 (hP2.mono (by omega)) hI2 ⟨?_, ?_, ?_, ?_, d0, d1, d2, d3, ⟨hh0.1, hj0.1, hk0.1⟩, ⟨hj1.1, hk1.1⟩, hk2.1⟩ ext6
      · rw [hk0.2, ← cells_snoc (f := fun k => (dd k).n) (g := fun k => (dd' k).n) fun k k0 k1 => by show (dd' k).n = (dd k).n; rw [aO k k0 k1]]
        show some _ = some (Blk.mk (_ ++ [.int .u64 (dd' n).n]) true); rw [en]
      · rw [hk1.2, ← cellsB_snoc (f := li) (g := li') lO, el]
      · rw [hk2.2, ← cellsB_snoc (f := fun k => (dd k).own) (g := fun k => (dd' k).own) fun k k0 k1 => by show (dd' k).own = (dd k).own; rw [aO k k0 k1]]
        show some _ = some (Blk.mk (_ ++ [.bool (dd' n).own]) true); rw [eo]
      · rw [g3, ← cells_snoc (f := fun k => (dd k).z) (g := fun k => (dd' k).z) fun k k0 k1 => by show (dd' k).z = (dd k).z; rw [aO k k0 k1]]
        show some _ = some (Blk.mk (_ ++ [.int .i64 (dd' n).z]) true); rw [ez]
    · simp only [e, ruS, ruL, ruE, Nat.reduceAdd, reduceIte, Int.reduceLT, Int.reduceLE, Int.reduceEq, Int.reduceNeg, Int.reduceAdd, Int.reduceSub, Nat.reduceLeDiff, Nat.reduceLT]
      have hI2 : Dl C (i + 1) n dd li wd A2.w b := by
        have keepS : ∀ t, 0 ≤ t → t < C.S → A2.w (C.slot t) = A1.w (C.slot t) := fun t t0 t1 => hD.fw.slot t t0 t1 fun q => absurd q e
        have haw : b.aw C A2.w := by
          rcases hD.r with ⟨_, _, _, h⟩ | ⟨s', F, hF', ⟨_, _, _, _, h⟩ | ⟨h, _⟩⟩
          · exact h
          · exact h
          · exact absurd h e
        have hm := hI.mono (i' := i + 1) (by omega)
        refine ⟨haw, hm.lv, fun t t0 t1 => by rw [keepS t t0 t1]; exact hm.gen t t0 t1, hm.hd, fun k k0 k1 hk => ?_, fun k k0 k1 hk => ?_, hm.ne, hm.sm, hm.tot, hm.nle⟩
        · have o := hI.ok k k0 k1 hk
          have oj := o.j
          have oi := o.i
          have av := (dd k).av hC o ⟨_, hI.aw⟩
          have rm := (dd k).rm0
          unfold Do.rm at rm
          refine o.keep o.sF (keepS _ o.s.1 o.s.2) (hD.fw.word _ _ oj.1 oj.2 oi.1 (by omega) (by omega)) (Int.le_refl _) o.lv
        · have hs := (hI.hd k k0 k1).1.2.2
          rw [keepS _ hs.1 hs.2]; exact hI.dead k k0 k1 hk
      exact j5 n dd li wd A2 b p0 p1 p2 p3 τ2 hA2 (hP2.mono (by omega)) hI2 rw2 ext2
  simp only [gA, ruS, ruL, ruE, Nat.reduceAdd, reduceIte, Int.reduceLT, Int.reduceLE, Int.reduceEq, Int.reduceNeg, Int.reduceAdd, Int.reduceSub, Nat.reduceLeDiff, Nat.reduceLT]
  by_cases ck : kd < 2
  · simp only [ck, ruS, ruL, ruE, Nat.reduceAdd, reduceIte, Int.reduceLT, Int.reduceLE, Int.reduceEq, Int.reduceNeg, Int.reduceAdd, Int.reduceSub, Nat.reduceLeDiff, Nat.reduceLT]; exact mk
  by_cases cn : n = 0
  · subst cn
    simp only [ck, xLen, ruS, ruL, ruE, Nat.reduceAdd, reduceIte, Int.reduceLT, Int.reduceLE, Int.reduceEq, Int.reduceNeg, Int.reduceAdd, Int.reduceSub, Nat.reduceLeDiff, Nat.reduceLT]; exact mk
  have cn' : ((n : Nat) : Int) ≠ 0 := by omega
  simp only [ck, cn', xLen, w_law09_DropAlone_j6, w_law09_DropAlone_j6b, ruS, ruL, ruE, Nat.reduceAdd, reduceIte, Int.reduceLT, Int.reduceLE, Int.reduceEq, Int.reduceNeg, Int.reduceAdd, Int.reduceSub, Nat.reduceLeDiff, Nat.reduceLT]
  have hn1 : (0 : Int) < (n : Int) := by omega
  obtain ⟨pk1, k0, k1⟩ := pickN at' hn1 (by omega)
  simp only [xRem cn', pk1, ruS, ruL, ruE, Nat.reduceAdd, reduceIte, Int.reduceLT, Int.reduceLE, Int.reduceEq, Int.reduceNeg, Int.reduceAdd, Int.reduceSub, Nat.reduceLeDiff, Nat.reduceLT]
  generalize (at'.tmod n + n).tmod n = k at *
  rw [xIxS k0 k1]
  simp only [Nat.zero_add, ruS, ruL, ruE, Nat.reduceAdd, reduceIte, Int.reduceLT, Int.reduceLE, Int.reduceEq, Int.reduceNeg, Int.reduceAdd, Int.reduceSub, Nat.reduceLeDiff, Nat.reduceLT]
  rw [ldCells rw1.g0 k0 k1]
  obtain ⟨⟨hnd, hok, hsl⟩, hcl⟩ := hI.hd k k0 k1
  have nxt : ∀ (A2 : Ar) τ2, A2.w = A1.w → A2.n = A1.n → A2.ok (1000 + 200 * i + 2) → isA N A2 τ2 → Keep N.l τ1 τ2 →
      w_law09_DropAlone_j5 (fun v x => v = Value.bool true) (w_law09_DropAlone_j2 fun v x => v = Value.bool true) R [s, .slice (some ⟨p0, 0, none⟩) n 1, .slice (some ⟨p1, 0, none⟩) n 1, .slice (some ⟨p2, 0, none⟩) n 1, .slice (some ⟨p3, 0, none⟩) n 1, .int .i64 wd, .int .i64 i] [N.el C 0] τ2 := by
    intro A2 τ2 ew en ok2 hA2 k2
    have haw : b.aw C A2.w := by rw [ew]; exact hI.aw
    exact j5 n dd li wd A2 b p0 p1 p2 p3 τ2 hA2 ((Bg.aw.pa hC haw ok2 (by rw [en]; exact hnn)).mono (by omega)) (by rw [ew]; exact hI.mono (by omega)) (rw1.keep k2) (ext1.keep' k2 hfr.all)
  by_cases hl : li k = true
  · have ho := hI.ok k k0 k1 hl
    have av := (dd k).av hC ho ⟨_, hI.aw⟩
    by_cases hw : (dd k).own = o
    · subst hw
      have hlv := hI.lv.lv (dd k).j ho.j.1 ho.j.2
      refine c_DropA (d := dd k) hN hC hA1 hP1 (by omega) hI.aw ho (by omega) fun m A2 τ2 hD hP2 hs2 hA2 k2 => ?_
      have ext2 := ext1.keep' k2 hfr.all
      have rw2 := rw1.keep k2
      obtain ⟨b', hI2, ⟨ew, ge1, ge2⟩, et⟩ := hI.drop hC hC8 hW hG (by omega) k0 k1 hl hD.fr hD.sl hD.aw
      simp only [gU, ruS, ruL, ruE, Nat.reduceAdd, reduceIte, Int.reduceLT, Int.reduceLE, Int.reduceEq, Int.reduceNeg, Int.reduceAdd, Int.reduceSub, Nat.reduceLeDiff, Nat.reduceLT]
      rw [xIxS k0 k1]
      simp only [Nat.zero_add]
      rw [ldCellsB rw2.g1 k0 k1, hl]
      simp only [ruS, ruL, ruE, Nat.reduceAdd, reduceIte, Int.reduceLT, Int.reduceLE, Int.reduceEq, Int.reduceNeg, Int.reduceAdd, Int.reduceSub, Nat.reduceLeDiff, Nat.reduceLT]
      rw [xIxS k0 k1]
      simp only [Nat.zero_add]
      rw [ldCellsB rw2.g2 k0 k1]
      simp only [xEqBB, xNeBB, beq_self_eq_true, ne_eq, not_true_eq_false, w_law09_DropAlone_j7, w_law09_DropAlone_j7b, ruS, ruL, ruE, Nat.reduceAdd, reduceIte, Int.reduceLT, Int.reduceLE, Int.reduceEq, Int.reduceNeg, Int.reduceAdd, Int.reduceSub, Nat.reduceLeDiff, Nat.reduceLT]
      rw [xIxS k0 k1]
      simp only [Nat.zero_add]
      rw [stCellsB rw2.g1 k0 k1]
      have hA3 : isA N A2 (τ2.set p1 ⟨cellsB n (updB li k false), true⟩) := hA2.setO rw2.d1.1
      have rw3 : Rw4 σ N (τ2.set p1 ⟨cellsB n (updB li k false), true⟩) p0 p1 p2 p3 n dd (updB li k false) :=
        ⟨by rw [Mem.get_set_ne _ _ rw2.n0.1]; exact rw2.g0, Mem.get_set_same _ _ _, by rw [Mem.get_set_ne _ _ rw2.n1.1.symm]; exact rw2.g2, by rw [Mem.get_set_ne _ _ rw2.n1.2.symm]; exact rw2.g3, rw2.d0, rw2.d1, rw2.d2, rw2.d3, rw2.n0, rw2.n1, rw2.n2⟩
      have ext3 : Ext σ (τ2.set p1 ⟨cellsB n (updB li k false), true⟩) := by
        intro x c hx
        rw [Mem.get_set_ne _ _ (by rintro rfl; rw [rw2.d1.2] at hx; cases hx)]
        exact ext2 x c hx
      generalize τ2.set p1 ⟨cellsB n (updB li k false), true⟩ = τ3 at *
      rw [xIxS k0 k1]
      simp only [Nat.zero_add]
      rw [ldCells rw3.g3 k0 k1]
      refine c_Class ?_
      rw [c_Room hcl (class_bd _).2]
      have rmk := (dd k).rm0
      simp only [ruS, ruL, ruE, Nat.reduceAdd, reduceIte, Int.reduceLT, Int.reduceLE, Int.reduceEq, Int.reduceNeg, Int.reduceAdd, Int.reduceSub, Nat.reduceLeDiff, Nat.reduceLT]
      have erm : roomOf (classOf (dd k).z) = (dd k).rm := rfl
      rw [erm, IntWalk.i64_in (wd - (dd k).rm) (by omega), xIxS k0 k1]
      simp only [Nat.zero_add]
      rw [ldCells rw3.g0 k0 k1]
      rw [c_wHandleG hnd.1 hnd.2]
      have es : hdSl (dd k).n = (dd k).s := rfl
      have eg : hdGe (dd k).n = (dd k).ge := rfl
      have hsb : 0 ≤ C.slot (dd k).s ∧ C.slot (dd k).s < A2.n := by have := hP2.n; unfold Cf.slot; unfold Cf.chunk at hln; omega
      have h1b : (1 : Int) < A2.n := by have := hP2.n; unfold Cf.chunk at hln; omega
      have w1 := hP2.ok.w 1
      obtain ⟨r1, r2, r3, r4⟩ := sl_put (st := 0) (ad := 0) (ge := (dd k).ge + 1) (ve := 0) (by decide) (by decide) (by omega) (by decide)
      have b02 : ∀ (x y : Int) (K : Value → Prop), xF (fBuild [(0, 1), (1, 1), (2, 1), (3, 1)] [.int .i64 0, .int .i64 0, .int .i64 0, .int .i64 0] [0, 2]) [.int .i64 x, .int .i64 y] K = K (.agg #[.int .i64 x, .int .i64 0, .int .i64 y, .int .i64 0]) := fun _ _ K => nr rfl
      simp only [es, eg, g2, c_lTop, c_Slot hC hsl.1 (by omega : (dd k).s ≤ 65536), c_PeekA hN hA3 hsb.1 hsb.2, c_PeekA hN hA3 (by decide : (0 : Int) ≤ 1) h1b, ew, c_wSlot (putSlot_in _ _ _ _).1 (putSlot_in _ _ _ _).2, r1, r2, r3, r4, gI, c_Top w1.1 w1.2, et, ruS, ruL, ruE, Nat.reduceAdd, reduceIte, Int.reduceLT, Int.reduceLE, Int.reduceEq, Int.reduceNeg, Int.reduceAdd, Int.reduceSub, Nat.reduceLeDiff, Nat.reduceLT]
      rw [IntWalk.i64_in ((dd k).ge + 1) (by omega)]
      simp only [b02, sub4, neFlat4, ne_eq, not_true_eq_false, w_law09_DropAlone_j8, w_law09_DropAlone_j8b, ruS, ruL, ruE, Nat.reduceAdd, reduceIte, Int.reduceLT, Int.reduceLE, Int.reduceEq, Int.reduceNeg, Int.reduceAdd, Int.reduceSub, Nat.reduceLeDiff, Nat.reduceLT]
      exact j5 n dd (updB li k false) (wd - (dd k).rm) A2 b' p0 p1 p2 p3 τ3 hA3 (hP2.mono (by omega)) hI2 rw3 ext3
    · refine c_DropNo hN hC hA1 hnd hP1.ok (by omega) hP1.n (.inr ⟨⟨hok, hsl.2⟩, .inr ⟨⟨?_, ?_⟩, ?_, ?_⟩⟩) fun oS A2 τ2 _ ew en ok2 hA2 k2 => ?_
      · have st := ho.st; rw [← ho.ws] at st; exact st.elim .inl fun h => .inr (.inl h)
      · show slG (A1.w (C.slot (dd k).s)) = _; rw [ho.ws]; exact ho.sg
      · show slA (A1.w (C.slot (dd k).s)) < _; rw [ho.ws, ho.sa]; have := av.1; have := av.2; omega
      · show hdO (A1.w (slA (A1.w (C.slot (dd k).s)))) ≠ _; rw [ho.ws, ho.sa, ho.hd.2]; exact hw
      have rw2 := rw1.keep k2
      have hw' : ((dd k).own == o) = false := by simpa using hw
      simp only [gU, ruS, ruL, ruE, Nat.reduceAdd, reduceIte, Int.reduceLT, Int.reduceLE, Int.reduceEq, Int.reduceNeg, Int.reduceAdd, Int.reduceSub, Nat.reduceLeDiff, Nat.reduceLT]
      rw [xIxS k0 k1]
      simp only [Nat.zero_add]
      rw [ldCellsB rw2.g1 k0 k1, hl]
      simp only [ruS, ruL, ruE, Nat.reduceAdd, reduceIte, Int.reduceLT, Int.reduceLE, Int.reduceEq, Int.reduceNeg, Int.reduceAdd, Int.reduceSub, Nat.reduceLeDiff, Nat.reduceLT]
      rw [xIxS k0 k1]
      simp only [Nat.zero_add]
      rw [ldCellsB rw2.g2 k0 k1]
      simp only [xEqBB, xNeBB, hw', beq_self_eq_true, ne_eq, not_true_eq_false, w_law09_DropAlone_j7, w_law09_DropAlone_j7b, ruS, ruL, ruE, Nat.reduceAdd, reduceIte, Int.reduceLT, Int.reduceLE, Int.reduceEq, Int.reduceNeg, Int.reduceAdd, Int.reduceSub, Nat.reduceLeDiff, Nat.reduceLT]
      exact nxt A2 τ2 ew en ok2 hA2 k2
  · have hl' : li k = false := by simpa using hl
    have hdd := hI.dead k k0 k1 hl'
    refine c_DropNo hN hC hA1 hnd hP1.ok (by omega) hP1.n (.inr ⟨⟨hok, hsl.2⟩, .inl fun h => ?_⟩) fun oS A2 τ2 _ ew en ok2 hA2 k2 => ?_
    · have : slG (A1.w (C.slot (dd k).s)) = (dd k).ge := h.2
      omega
    have rw2 := rw1.keep k2
    simp only [gU, ruS, ruL, ruE, Nat.reduceAdd, reduceIte, Int.reduceLT, Int.reduceLE, Int.reduceEq, Int.reduceNeg, Int.reduceAdd, Int.reduceSub, Nat.reduceLeDiff, Nat.reduceLT]
    rw [xIxS k0 k1]
    simp only [Nat.zero_add]
    rw [ldCellsB rw2.g1 k0 k1, hl']
    simp only [xEqBB, xNeBB, beq_self_eq_true, ne_eq, not_true_eq_false, w_law09_DropAlone_j7, w_law09_DropAlone_j7b, ruS, ruL, ruE, Nat.reduceAdd, reduceIte, Int.reduceLT, Int.reduceLE, Int.reduceEq, Int.reduceNeg, Int.reduceAdd, Int.reduceSub, Nat.reduceLeDiff, Nat.reduceLT]
    exact nxt A2 τ2 ew en ok2 hA2 k2
end Go.Fl
