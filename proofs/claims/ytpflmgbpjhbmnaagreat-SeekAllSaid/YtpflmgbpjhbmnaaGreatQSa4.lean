/- KSeek, KHere, KMade, KCur, PGrp2, KRef3, PFr, KRef4, KRef5, KRef5b, KRef6, PCons2, KRef7, KRef9. -/
import Derived.Test.YtpflmgbpjhbmnaaGreatQSa3
import Derived.Test.YtpflmgbpjhbmnaaGreatQSa2
section
set_option linter.unusedVariables false
set_option linter.unusedSimpArgs false
set_option maxRecDepth 10000
namespace Go.Eng
open Go Go.Proofs
structure Pl where
  b : Bt
  at_ : Nat
def plC (p : Pl) : AV := .agg [gF p.b, bO p.b.keys, .int .i64 p.at_]
def xM (t : Nat) : AV := .ptr t 0 0
structure Cur (H0 H : AH) (c : Nat) (v : AV) (ts : List Nat) (ps : List Pl) : Prop where
  o : OBL H0 H c [] [v] [(1, ts.map xM)]
  len : ts.length = ps.length
  pl : ∀ (i : Nat) t p, ts[i]? = some t → ps[i]? = some p → obj? H t = some (3, [plC p])
  ap : ∀ t ∈ ts, t ≠ c ∧ idx v ≠ some t ∧ H0.length ≤ t
  nd : ts.Nodup
def OK : Option Bt → AV
  | none => .nilp
  | some b => gF b
def fD : List Bt → List (Option Bt) → Option (List Bt)
  | l, [] => some l
  | l, none :: r => fD l r
  | [], some b :: r => fD [b] r
  | a :: l, some b :: r => if b.key = a.key then fD (a :: l ++ [b]) r else none
theorem OBX.appk {H0 H : AH} {t sz B : Nat} {bx : Nat × List AV} {hd vs : List AV} {ls : List (Nat × List AV)} {v : AV} {l : List AV} (O : OBX H0 H t hd vs ls B bx) (j bytes : Nat) (x : AV) (hj : vs[j]? = some v) (hl : ls[j]? = some (sz, l)) (hb : (l.length + 1) * bytes ≤ 140737488355328) :
    ∃ v' Hm H2, mM sz bytes v (.ref sz H.length 0 1 1 true) (H ++ [.live sz [x]]) = some (v', Hm) ∧ obj? Hm t = some (hd.length + vs.length, [.agg (hd ++ vs)]) ∧ cells v' = [v'] ∧ dH v' = true ∧ List.set Hm t (.live (hd.length + vs.length) [.agg (hd ++ vs.set j v')]) = H2 ∧ OBX H0 H2 t hd (vs.set j v') (ls.set j (sz, l ++ [x])) B bx ∧ ∀ u o, obj? H u = some o → idx v ≠ some u → u ≠ t → obj? H2 u = some o ∧ idx v' ≠ some u := by
  have O1 := O.mono (J := [.live sz [x]])
  have ow := O1.o.own j v _ hj hl
  refine ⟨_, _, _, ow.app_eq (xs := [x]) (bT (by simp)) (by simp) (by simpa using hb), O1.mid hj, rfl, rfl, rfl, O1.app hj hl, fun u o ho hv hu => ⟨?_, fun e => ?_⟩⟩
  · rw [bF (fun e => hu e.symm)]
    refine bB (List.prefix_append _ _) ?_
    rw [iQ hv]
    exact bB (List.prefix_append _ _) ho
  · cases e
    have := aY ho
    rw [List.length_append] at this
    omega
def uB : AC := (.ops [oo 59 (.mov (.t 4)), oo 60 (.nilc (.t 59)), oo 61 (.faddr 0 (.t 60)), oo 62 (.load false 1 (.t 61)), oo 63 (.len (.t 62)), oo 64 (.bin .gtr (.t 63) (.v (.int .i64 0))), oo 65 (.mov (.t 64)), og 66 65 true (.mov (.t 7)), og 67 65 true (.nilc (.t 66)), og 68 65 true (.faddr 0 (.t 67)), og 69 65 true (.load false 1 (.t 68)), og 71 65 true (.mov (.t 4)), og 72 65 true (.nilc (.t 71)), og 73 65 true (.faddr 0 (.t 72)), og 74 65 true (.load false 1 (.t 73)), og 75 65 true (.iaddr 1 (.t 74) (.v (.int .i64 0))), og 76 65 true (.load false 1 (.t 75)), og 77 65 true (.nilc (.t 76)), og 78 65 true (.faddr 0 (.t 77)), og 79 65 true (.load false 1 (.t 78)), ⟨some 70, some (65, true), true, (.call 18 [(.t 69)])⟩, og 80 65 true (.call 18 [(.t 79)]), og 81 65 true (.bin .neq (.t 70) (.t 80)), oo 82 (.pick (.t 65) (.t 81) (.v (.bool false))), oo 23 (.mov (.t 59)), oo 24 (.mov (.t 60)), oo 25 (.mov (.t 61)), oo 26 (.mov (.t 62)), oo 27 (.mov (.t 63)), oo 28 (.mov (.t 64)), oo 29 (.mov (.t 65)), oo 30 (.mov (.t 66)), oo 31 (.mov (.t 67)), oo 32 (.mov (.t 68)), oo 33 (.mov (.t 69)), oo 35 (.mov (.t 71)), oo 36 (.mov (.t 72)), oo 37 (.mov (.t 73)), oo 38 (.mov (.t 74)), oo 39 (.mov (.t 75)), oo 40 (.mov (.t 76)), oo 41 (.mov (.t 77)), oo 42 (.mov (.t 78)), oo 43 (.mov (.t 79)), oo 34 (.mov (.t 70)), oo 44 (.mov (.t 80)), oo 45 (.mov (.t 81)), oo 46 (.mov (.t 82))])
def DA : AC := (.block 0 (.loop (.seq (.ops [oo 13 (.bin .lss (.t 12) (.t 11))]) (.seq (.cond (.t 13) .skip (.exit 0)) (.seq (.block 1 (.seq (.ops [oo 14 (.iaddr 1 (.t 10) (.t 12)), oo 15 (.load false 1 (.t 14)), oo 6 (.mov (.t 15))]) (.seq (.seq (.ops [oo 16 (.mov (.t 6)), oo 17 (.eqn 0 false (.t 16))]) (.cond (.t 17) (.exit 1) .skip)) (.seq (.ops [oo 18 (.mov (.t 6)), oo 19 (.mov (.t 6)), oo 20 (.call 22 [(.t 19)]), oo 21 (.build [.nilp, .nils, (.int .i64 0)] [(0, 1, (.t 18)), (1, 1, (.t 20))]), oo 22 (.box 3 (.t 21)), oo 7 (.mov (.t 22))]) (.seq (.seq (uB) (.cond (.t 46) (.seq (.ops [oo 2 (.mov (.v .nilp)), oo 3 (.mov (.v (.int .i64 1)))]) .ret) .skip)) (.ops [oo 47 (.mov (.t 4)), oo 48 (.mov (.t 4)), oo 49 (.nilc (.t 48)), oo 50 (.faddr 0 (.t 49)), oo 51 (.load false 1 (.t 50)), oo 52 (.mov (.t 7)), oo 53 (.bsl 1 1 .nilp [(0, (.t 52))]), oo 54 (.app 1 8 (.t 51) (.t 53)), oo 55 (.nilc (.t 47)), oo 56 (.faddr 0 (.t 55)), on (.store 1 (.t 56) (.t 54))])))))) (.ops [oo 57 (.bin .add (.t 12) (.v (.int .i64 1))), oo 12 (.mov (.t 57))]))))))
def F29 : AFn := ⟨59, 1, [.t 2, .t 3], (.seq (.ops [oo 2 (.mov (.v .nilp)), oo 3 (.mov (.v (.int .i64 0)))]) (.seq (.ops [oo 8 (.build [.nils] []), oo 9 (.box 1 (.t 8)), oo 4 (.mov (.t 9))]) (.seq (.seq (.ops [oo 10 (.mov (.t 0)), oo 11 (.len (.t 10)), oo 12 (.mov (.v (.int .i64 0)))]) (DA)) (.seq (.ops [oo 58 (.mov (.t 4)), oo 2 (.mov (.t 58)), oo 3 (.mov (.v (.int .i64 0)))]) .ret))))⟩
theorem c29 : aD Tryz.prog 29 = some F29 := by kernel_rfl
theorem WV {P : Program} {l : List AOp} {Q : AF → AH → Prop} {f : AF} {H : AH} {d : Option Nat} {g s : Nat} {b : Bool} {xs : List X} (h : gv (f s) b = some true) : dJ P (⟨d, some (s, b), true, .call g xs⟩ :: l) Q f H = aC P g (xs.map (ev f)) H (nM P l Q f d true H) := by
  unfold nM
  simp only [dJ, h, cR]
theorem WW {P : Program} {l : List AOp} {Q : AF → AH → Prop} {f : AF} {H : AH} {d : Option Nat} {g s : Nat} {b : Bool} {xs : List X} (h : gv (f s) b = some false) : dJ P (⟨d, some (s, b), true, .call g xs⟩ :: l) Q f H = dJ P l Q (put f d (.tup [])) H := by
  simp only [dJ, h]
def rG (l : List Bt) (b : Bt) : Bool :=
  match l with
  | [] => false
  | a :: _ => decide (b.key ≠ a.key)
theorem iU (p : Pl) : part false 1 0 (plC p) = some (gF p.b) ∧ part false 1 1 (plC p) = some (bO p.b.keys) ∧ part false 1 2 (plC p) = some (.int .i64 p.at_) := ⟨rfl, rfl, rfl⟩
theorem vN (t : Nat) : part false 1 0 (xM t) = some (.ptr t 0 0) := rfl
theorem xN {a10 a11 a12 : AV} {H0 H : AH} {c B : Nat} {v : AV} {ts : List Nat} {l : List Bt} {b : Bt} {f : AF} {Q : AE → AF → AH → Prop} (C : Cur H0 H c v ts (l.map fun b => ⟨b, 0⟩)) (hB : obj? H B = some (3, [plC ⟨b, 0⟩])) (e4 : f 4 = .ptr c 0 0) (e7 : f 7 = .ptr B 0 0) (e10 : f 10 = a10) (e11 : f 11 = a11) (e12 : f 12 = a12)
    (hQ : ∀ f', f' 4 = .ptr c 0 0 → f' 7 = .ptr B 0 0 → f' 10 = a10 → f' 11 = a11 → f' 12 = a12 → f' 46 = .bool (rG l b) → Q .normal f' H) : uB.wp Tryz.prog Q f H := by
  unfold uB
  have ob := C.o.ob
  have ow := C.o.own 0 _ _ rfl rfl
  have al := pC ow
  rw [List.length_map] at al
  have sc := dW ow
  simp only [List.length_cons, List.length_nil, List.nil_append, Nat.reduceAdd] at ob
  cases l with
  | nil =>
    have h0 : ts.length = 0 := C.len
    rw [h0] at al
    have g0 : ¬ (0 : Int) > 0 := by decide
    simp only [push_cast, ↓reduceIte, Nat.reduceEqDiff, reduceCtorEq, Nat.reduceAdd, Nat.reduceLT, Nat.reduceLeDiff, aB, aA, e4, e7, ob, sc, al, g0, decide_false]
    rw [WW (by rfl)]
    simp only [push_cast, ↓reduceIte, Nat.reduceEqDiff, reduceCtorEq, Nat.reduceAdd, Nat.reduceLT, Nat.reduceLeDiff]
    exact hQ _ e4 e7 e10 e11 e12 rfl
  | cons a l =>
    have hl := C.len
    cases ts with
    | nil => simp at hl
    | cons t0 ts =>
    have h1 := C.pl 0 t0 ⟨a, 0⟩ rfl rfl
    have he := dM ow
    have ax : aF 1 v (.int .i64 0) = some (ptk v 0 0) := aK (i := 0) he (by simp) _
    have lx : ((t0 :: ts).map xM)[0]? = some (xM t0) := rfl
    have g0 : ((t0 :: ts).length : Int) > 0 := by simp only [List.length_cons]; omega
    have le := aO he lx (List.prefix_refl H)
    generalize (t0 :: ts).length = m at al g0
    simp only [push_cast, ↓reduceIte, Nat.reduceEqDiff, reduceCtorEq, Nat.reduceAdd, Nat.reduceLT, Nat.reduceLeDiff, aB, aA, e4, e7, ob, sc, al, g0, decide_true, hB, h1, iU, vN, ax, le]
    rw [WV (by rfl)]
    (refine aC.look (RG b _) ?_; simp only [push_cast, ↓reduceIte, Nat.reduceEqDiff, reduceCtorEq, Nat.reduceAdd, Nat.reduceLT, Nat.reduceLeDiff, aB, aA, exJ])
    (refine aC.look (RG a _) ?_; simp only [push_cast, ↓reduceIte, Nat.reduceEqDiff, reduceCtorEq, Nat.reduceAdd, Nat.reduceLT, Nat.reduceLeDiff, aB, aA, exJ])
    refine hQ _ e4 e7 e10 e11 e12 ?_
    simp only [push_cast, ↓reduceIte, Nat.reduceEqDiff, reduceCtorEq, Nat.reduceAdd, Nat.reduceLT, Nat.reduceLeDiff, rG]
    simp
theorem Cur.more {H0 H : AH} {c : Nat} {v : AV} {ts : List Nat} {ps : List Pl} (C : Cur H0 H c v ts ps) (p : Pl) (hb : ts.length < 1099511627776) :
    ∃ v' Hm H2, mM 1 8 v (.ref 1 (H.length + 1) 0 1 1 true) (H ++ [.live 3 [plC p]] ++ [.live 1 [xM H.length]]) = some (v', Hm) ∧ obj? Hm c = some (1, [.agg [v]]) ∧ cells v' = [v'] ∧ dH v' = true ∧ List.set Hm c (.live 1 [.agg [v']]) = H2 ∧ Cur H0 H2 c v' (ts ++ [H.length]) (ps ++ [p]) := by
  have X := C.o.box 3 [plC p]
  obtain ⟨v', Hm, H2, h1, h2, h3, h4, h5, h6, h7⟩ := X.appk 0 8 (xM H.length) rfl rfl (by simp only [List.length_map]; omega)
  rw [show (H ++ [aR.live 3 [plC p]]).length = H.length + 1 by simp] at h1
  have hlow : ∀ u, idx v = some u → u < H.length := fun u hu => (C.o.low (i := 0) rfl hu).2
  have hnew := h7 H.length (3, [plC p]) (bA _ _ _) (fun e => by have := hlow _ e; omega) X.bt
  have hold : ∀ t ∈ ts, ∀ o, obj? H t = some o → obj? H2 t = some o ∧ idx v' ≠ some t := fun t ht o ho => h7 t o (bB (List.prefix_append _ _) ho) (C.ap t ht).2.1 (C.ap t ht).1
  have hlt : ∀ t ∈ ts, ∃ o, obj? H t = some o := fun t ht => by
    obtain ⟨i, hi, rfl⟩ := List.mem_iff_getElem.1 ht
    exact ⟨_, C.pl i _ _ (List.getElem?_eq_getElem hi) (List.getElem?_eq_getElem (show i < ps.length by rw [← C.len]; exact hi))⟩
  refine ⟨v', Hm, H2, h1, h2, h3, h4, h5, ⟨by rw [List.map_append]; exact h6.o, by simp [C.len], fun i t q hi hq => ?_, fun t ht => ?_, ?_⟩⟩
  · rw [List.getElem?_append] at hi hq
    split at hi
    · rename_i hlt2
      rw [if_pos (by rw [← C.len]; exact hlt2)] at hq
      exact (hold t (List.mem_of_getElem? hi) _ (C.pl i t q hi hq)).1
    · rename_i hge
      rw [if_neg (by rw [← C.len]; exact hge)] at hq
      have hle := C.len
      obtain ⟨i', rfl⟩ : ∃ j, i = ts.length + j := ⟨i - ts.length, by omega⟩
      rw [Nat.add_sub_cancel_left] at hi
      rw [← hle, Nat.add_sub_cancel_left] at hq
      cases i' with
      | zero => simp at hi hq; subst hi hq; exact hnew.1
      | succ k => simp at hi
  · rcases List.mem_append.1 ht with ht | ht
    · obtain ⟨o, ho⟩ := hlt t ht
      exact ⟨(C.ap t ht).1, (hold t ht o ho).2, (C.ap t ht).2.2⟩
    · rw [List.mem_singleton.1 ht]
      exact ⟨X.bt, hnew.2, C.o.pre.length_le⟩
  · rw [List.nodup_append]
    refine ⟨C.nd, by simp, fun a ha b hb e => ?_⟩
    rw [List.mem_singleton] at hb
    subst e
    obtain ⟨o, ho⟩ := hlt a ha
    have := aY ho
    omega
theorem Cur.mono {H0 H J : AH} {c : Nat} {v : AV} {ts : List Nat} {ps : List Pl} (C : Cur H0 H c v ts ps) : Cur H0 (H ++ J) c v ts ps :=
  ⟨C.o.mono, C.len, fun i t p h1 h2 => bB (List.prefix_append _ _) (C.pl i t p h1 h2), C.ap, C.nd⟩
theorem xO {l : List Bt} {b : Bt} {r : List (Option Bt)} : fD l (some b :: r) = if rG l b = true then none else fD (l ++ [b]) r := by
  cases l with
  | nil => rfl
  | cons a l =>
    simp only [fD, rG]
    by_cases h : b.key = a.key <;> simp [h]
theorem HL {x : AV} {bs : List (Option Bt)} {H : AH} {f : AF} {Q : AE → AF → AH → Prop} (hx : elems 1 x H = some (bs.map OK)) (hl : bs.length < 1099511627776) (hok : ∀ b, some b ∈ bs → OH b) (e4 : f 4 = .ptr H.length 0 0) (e10 : f 10 = x) (e11 : f 11 = .int .i64 bs.length) (e12 : f 12 = .int .i64 0)
    (h1 : fD [] bs = none → ∀ f H', H <+: H' → f 2 = .nilp → f 3 = .int .i64 1 → Q .ret f H')
    (h2 : ∀ l f H' v ts, fD [] bs = some l → Cur H H' H.length v ts (l.map fun b => ⟨b, 0⟩) → f 4 = .ptr H.length 0 0 → Q .normal f H') : DA.wp Tryz.prog Q f (H ++ [.live 1 [.agg [.nils]]]) := by
  unfold DA
  simp only [push_cast, ↓reduceIte, Nat.reduceEqDiff, reduceCtorEq, Nat.reduceAdd, Nat.reduceLT, Nat.reduceLeDiff]
  have c0 : Cur H (H ++ [.live 1 [.agg [.nils]]]) H.length .nils [] [] := by
    refine ⟨⟨aN (List.prefix_refl _), Nat.le_refl _, bA _ _ _, fun i v l h1 h2 => ?_, fun i j v w u hij h1 h2 hu => ?_, fun i v h1 => ?_, rfl⟩, rfl, fun i t p h => by simp at h, fun t h => by simp at h, List.nodup_nil⟩
    · match i with
      | 0 => cases h1; cases h2; exact .inl ⟨rfl, rfl⟩
      | n + 1 => cases h1
    · match i with
      | 0 => cases h1; cases hu
      | n + 1 => cases h1
    · match i with
      | 0 => cases h1; exact fun e => by cases e
      | n + 1 => cases h1
  refine aI (fun (s : Nat × List Bt) f H' => s.1 ≤ bs.length ∧ s.2.length ≤ s.1 ∧ f 4 = .ptr H.length 0 0 ∧ f 10 = x ∧ f 11 = .int .i64 bs.length ∧ f 12 = .int .i64 s.1 ∧ fD [] bs = fD s.2 (bs.drop s.1) ∧ ∃ v ts, Cur H H' H.length v ts (s.2.map fun b => ⟨b, 0⟩)) (fun s => bs.length - s.1) (0, []) ⟨Nat.zero_le _, Nat.le_refl _, e4, e10, e11, e12, rfl, _, _, c0⟩ ?_
  clear e4 e10 e11 e12 c0
  rintro ⟨i, l⟩ f H2 ⟨h3, h3b, e4, e10, e11, e12, hs, v, ts, C⟩
  dsimp only at h3 h3b e12 hs
  have hp := C.o.pre
  by_cases hi : i < bs.length
  · have hi' : (i : Int) < bs.length := by omega
    have ax : aF 1 x (.int .i64 (i : Int)) = some (ptk x i 0) := aK hx (by rw [List.length_map]; exact hi) _
    have lx : (bs.map OK)[i]? = some (OK bs[i]) := by simp [hi]
    rw [List.drop_eq_getElem_cons hi] at hs
    have hmem := List.getElem_mem hi
    generalize bs[i] = ob at lx hs hmem
    cases ob with
    | none =>
      have po : part false 1 0 (OK none) = some .nilp := rfl
      simp only [push_cast, ↓reduceIte, Nat.reduceEqDiff, reduceCtorEq, Nat.reduceAdd, Nat.reduceLT, Nat.reduceLeDiff, aB, aA, e4, e10, e11, e12, hi', ax, aO hx lx, hp, po]
      refine ⟨(i + 1, l), ⟨hi, by dsimp only; omega, ?_, by rw [hs]; cases l <;> rfl, v, ts, C⟩, by dsimp only; omega⟩
      dsimp only; rw [aE (by omega) (by omega)]; simp
    | some b =>
      have po : part false 1 0 (OK (some b)) = some (gF b) := rfl
      have ck : cells (bO b.keys) = [bO b.keys] ∧ dH (bO b.keys) = true := ⟨rfl, rfl⟩
      have cb : cells (.lptr 9 [vG b] 0 0) = [.lptr 9 [vG b] 0 0] := rfl
      simp only [push_cast, ↓reduceIte, Nat.reduceEqDiff, reduceCtorEq, Nat.reduceAdd, Nat.reduceLT, Nat.reduceLeDiff, aB, aA, e4, e10, e11, e12, hi', ax, aO hx lx, hp, po, gF]
      (refine aC.look (RH b (hok b hmem) _) ?_; simp only [push_cast, ↓reduceIte, Nat.reduceEqDiff, reduceCtorEq, Nat.reduceAdd, Nat.reduceLT, Nat.reduceLeDiff, aB, aA, e4, e10, e11, e12, ck, cb, bO])
      have hbx : AV.agg [.lptr 9 [vG b] 0 0, .list 1 (b.keys.map aS) false, .int .i64 0] = plC ⟨b, 0⟩ := rfl
      rw [hbx]
      rw [xO] at hs
      refine xN (B := H2.length) (b := b) C.mono (bA _ _ _) (by exact e4) (by rfl) (by exact e10) (by exact e11) (by exact e12) fun f' g4 g7 g10 g11 g12 g46 => ?_
      cases hd : rG l b with
      | true =>
        rw [hd, if_pos rfl] at hs
        rw [hd] at g46
        simp only [push_cast, ↓reduceIte, Nat.reduceEqDiff, reduceCtorEq, Nat.reduceAdd, Nat.reduceLT, Nat.reduceLeDiff, g46]
        exact h1 hs _ _ (aN hp) rfl rfl
      | false =>
        rw [hd, if_neg (by decide)] at hs
        rw [hd] at g46
        have hts : ts.length = l.length := by rw [C.len, List.length_map]
        obtain ⟨v', Hm, H3, q1, q2, q3, q4, q5, C2⟩ := C.more ⟨b, 0⟩ (by omega)
        have ob := (C.mono (J := [.live 3 [plC ⟨b, 0⟩]])).mono (J := [.live 1 [xM H2.length]]) |>.o.ob
        have ob1 := (C.mono (J := [.live 3 [plC ⟨b, 0⟩]])).o.ob
        simp only [List.length_cons, List.length_nil, List.nil_append, Nat.reduceAdd] at ob ob1
        have sc := dW (C.o.own 0 _ _ rfl rfl)
        have hpA : ∀ t, xM t = .ptr t 0 0 := fun _ => rfl
        simp only [hpA] at q1 ob
        have hl2 : (H2 ++ [aR.live 3 [plC ⟨b, 0⟩]]).length = H2.length + 1 := by simp
        have cpt : ∀ t, cells (.ptr t 0 0) = [.ptr t 0 0] := fun _ => rfl
        simp only [push_cast, ↓reduceIte, Nat.reduceEqDiff, reduceCtorEq, Nat.reduceAdd, Nat.reduceLT, Nat.reduceLeDiff, aB, aA, g46, g4, g7, g10, g11, g12, ob1, cpt, sc, q1, q2, q3, q4, q5]
        refine ⟨(i + 1, l ++ [b]), ⟨hi, by dsimp only; rw [List.length_append, List.length_singleton]; omega, ?_, hs, v', _, by rw [List.map_append]; exact C2⟩, by dsimp only; omega⟩
        dsimp only; rw [aE (by omega) (by omega)]; simp
  · have hi' : ¬ (i : Int) < bs.length := by omega
    simp only [push_cast, ↓reduceIte, Nat.reduceEqDiff, reduceCtorEq, Nat.reduceAdd, Nat.reduceLT, Nat.reduceLeDiff, e11, e12, hi']
    rw [List.drop_eq_nil_of_le (by omega)] at hs
    exact h2 l _ _ v ts (by rw [hs]; cases l <;> rfl) C e4
theorem HM (x : AV) (bs : List (Option Bt)) (H : AH) (hx : elems 1 x H = some (bs.map OK)) (hl : bs.length < 1099511627776) (hok : ∀ b, some b ∈ bs → OH b) :
    aC Tryz.prog 29 [x] H fun r H' => H <+: H' ∧ (fD [] bs = none → r = .tup [.nilp, .int .i64 1]) ∧ ∀ l, fD [] bs = some l → ∃ v ts, r = .tup [.ptr H.length 0 0, .int .i64 0] ∧ Cur H H' H.length v ts (l.map fun b => ⟨b, 0⟩) := by
  refine aU c29 (by simp [F29]) ?_
  unfold F29
  have la := aL hx
  rw [List.length_map] at la
  simp only [push_cast, ↓reduceIte, Nat.reduceEqDiff, reduceCtorEq, Nat.reduceAdd, Nat.reduceLT, Nat.reduceLeDiff, aB, aA, la]
  refine HL hx hl hok (by rfl) (by rfl) (by rfl) (by rfl) (fun hn f H' hp e2 e3 => ?_) (fun l f H' v ts hs C e4 => ?_)
  · simp only [push_cast, ↓reduceIte, Nat.reduceEqDiff, reduceCtorEq, Nat.reduceAdd, Nat.reduceLT, Nat.reduceLeDiff, e2, e3]
    exact ⟨hp, fun l h => by rw [hn] at h; cases h⟩
  · simp only [push_cast, ↓reduceIte, Nat.reduceEqDiff, reduceCtorEq, Nat.reduceAdd, Nat.reduceLT, Nat.reduceLeDiff, e4]
    have e1 : fD [] bs = none → AV.tup [.ptr H.length 0 0, .int .i64 0] = .tup [.nilp, .int .i64 1] := fun h => by rw [hs] at h; cases h
    refine ⟨C.o.pre, e1, fun l2 h => ?_⟩
    have e2 : l = l2 := by rw [hs] at h; exact Option.some.inj h
    rw [← e2]
    exact ⟨v, ts, C⟩
def F91 : AFn := ⟨24, 1, [.t 2, .t 3], (.seq (.ops [oo 2 (.mov (.v .nils)), oo 3 (.mov (.v (.bool false)))]) (.seq (.seq (.ops [oo 24 (.mov (.t 0)), oo 25 (.nilc (.t 24)), oo 26 (.faddr 2 (.t 25)), oo 27 (.load false 1 (.t 26)), oo 28 (.mov (.t 0)), oo 29 (.nilc (.t 28)), oo 30 (.faddr 1 (.t 29)), oo 31 (.load false 1 (.t 30)), oo 32 (.len (.t 31)), oo 33 (.bin .eql (.t 27) (.t 32)), oo 4 (.mov (.t 24)), oo 5 (.mov (.t 25)), oo 6 (.mov (.t 26)), oo 7 (.mov (.t 27)), oo 8 (.mov (.t 28)), oo 9 (.mov (.t 29)), oo 10 (.mov (.t 30)), oo 11 (.mov (.t 31)), oo 12 (.mov (.t 32)), oo 13 (.mov (.t 33))]) (.cond (.t 13) (.seq (.ops [oo 2 (.mov (.v .nils)), oo 3 (.mov (.v (.bool false)))]) .ret) .skip)) (.seq (.ops [oo 24 (.mov (.t 0)), oo 25 (.nilc (.t 24)), oo 26 (.faddr 1 (.t 25)), oo 27 (.load false 1 (.t 26)), oo 28 (.mov (.t 0)), oo 29 (.nilc (.t 28)), oo 30 (.faddr 2 (.t 29)), oo 31 (.load false 1 (.t 30)), oo 32 (.iaddr 1 (.t 27) (.t 31)), oo 33 (.load false 1 (.t 32)), oo 34 (.mov (.t 33)), oo 35 (.mov (.v (.bool true))), oo 14 (.mov (.t 24)), oo 15 (.mov (.t 25)), oo 16 (.mov (.t 26)), oo 17 (.mov (.t 27)), oo 18 (.mov (.t 28)), oo 19 (.mov (.t 29)), oo 20 (.mov (.t 30)), oo 21 (.mov (.t 31)), oo 22 (.mov (.t 32)), oo 23 (.mov (.t 33)), oo 2 (.mov (.t 34)), oo 3 (.mov (.t 35))]) .ret)))⟩
theorem c91 : aD Tryz.prog 91 = some F91 := by kernel_rfl
theorem RO {H : AH} {t : Nat} {p : Pl} (h : obj? H t = some (3, [plC p])) (hl : p.b.keys.length < 1099511627776) (ha : p.at_ ≤ p.b.keys.length) : aC Tryz.prog 91 [.ptr t 0 0] H fun r H' => r = (match p.b.keys[p.at_]? with | some k => .tup [aS k, .bool true] | none => .tup [.nils, .bool false]) ∧ H' = H := by
  refine aU c91 (by simp [F91]) ?_
  unfold F91
  have al : cZ (bO p.b.keys) = some p.b.keys.length := by simp [bO, cZ]
  by_cases hi : p.at_ < p.b.keys.length
  · have hne : ¬ (p.at_ : Int) = p.b.keys.length := by omega
    have ax : aF 1 (bO p.b.keys) (.int .i64 (p.at_ : Int)) = some (.lptr 1 (p.b.keys.map aS) p.at_ 0) := cM (by rw [List.length_map]; exact hi) _
    have lx : (p.b.keys.map aS)[p.at_]? = some (aS p.b.keys[p.at_]) := by simp [hi]
    have e : p.b.keys[p.at_]? = some p.b.keys[p.at_] := List.getElem?_eq_getElem hi
    rw [e]
    simp only [push_cast, ↓reduceIte, Nat.reduceEqDiff, reduceCtorEq, Nat.reduceAdd, Nat.reduceLT, Nat.reduceLeDiff, aB, aA, h, iU, al, hne, decide_false, ax, lx, kD]
    (repeat (first | exact List.prefix_refl _ | refine List.IsPrefix.trans ?_ (List.prefix_append _ _)))
  · have e : p.b.keys[p.at_]? = none := List.getElem?_eq_none (by omega)
    have hne : (p.at_ : Int) = p.b.keys.length := by omega
    rw [e]
    simp only [push_cast, ↓reduceIte, Nat.reduceEqDiff, reduceCtorEq, Nat.reduceAdd, Nat.reduceLT, Nat.reduceLeDiff, aB, aA, h, iU, al, hne, decide_true]
    (repeat (first | exact List.prefix_refl _ | refine List.IsPrefix.trans ?_ (List.prefix_append _ _)))
def Pl.key (p : Pl) : Option (List Val) := p.b.keys[p.at_]?
def rH (k : List Val) : Option (List Val) → Bool
  | none => true
  | some o => decide (bG k o < 0)
def gX (o : Option (List Val)) (p : Pl) : Option (List Val) :=
  match p.key with
  | none => o
  | some k => if rH k o = true then some k else o
def cJ (ps : List Pl) : Option (List Val) := ps.foldl gX none
def JR : Option (List Val) → AV
  | none => .nils
  | some k => aS k
structure HN (ps : List Pl) : Prop where
  n : ps.length < 1099511627776
  kl : ∀ p ∈ ps, p.b.keys.length < 1099511627776
  at_ : ∀ p ∈ ps, p.at_ ≤ p.b.keys.length
  kr : ∀ p ∈ ps, ∀ k ∈ p.b.keys, k.length < 1099511627776
def F67 : AFn := ⟨39, 1, [.t 2, .t 3], (.seq (.ops [oo 2 (.mov (.v .nils)), oo 3 (.mov (.v (.bool false)))]) (.seq (.seq (.ops [oo 8 (.mov (.t 0)), oo 9 (.eqn 0 false (.t 8))]) (.cond (.t 9) (.seq (.ops [oo 2 (.mov (.v .nils)), oo 3 (.mov (.v (.bool false)))]) .ret) .skip)) (.seq (.seq (.ops [oo 10 (.mov (.t 0)), oo 11 (.nilc (.t 10)), oo 12 (.faddr 0 (.t 11)), oo 13 (.load false 1 (.t 12)), oo 14 (.len (.t 13)), oo 15 (.mov (.v (.int .i64 0)))]) (.block 0 (.loop (.seq (.ops [oo 16 (.bin .lss (.t 15) (.t 14))]) (.seq (.cond (.t 16) .skip (.exit 0)) (.seq (.block 1 (.seq (.ops [oo 17 (.iaddr 1 (.t 13) (.t 15)), oo 18 (.load false 1 (.t 17)), oo 5 (.mov (.t 18))]) (.seq (.ops [oo 20 (.mov (.t 5)), oo 21 (.call 91 [(.t 20)]), oo 19 (.mov (.t 21)), oo 22 (.ext (.t 19) 0), oo 23 (.ext (.t 19) 1), oo 6 (.mov (.t 22)), oo 7 (.mov (.t 23))]) (.seq (.ops [oo 24 (.mov (.t 7)), oo 25 (.mov (.t 24)), og 26 25 true (.mov (.t 3)), og 27 25 true (.un .not (.t 26)), og 28 25 true (.mov (.t 27)), og 29 28 false (.mov (.t 6)), og 30 28 false (.mov (.t 2)), og 31 28 false (.call 90 [(.t 29), (.t 30)]), og 32 28 false (.bin .lss (.t 31) (.v (.int .i64 0))), og 33 25 true (.pick (.t 28) (.v (.bool true)) (.t 32)), oo 34 (.pick (.t 25) (.t 33) (.v (.bool false)))]) (.cond (.t 34) (.ops [oo 35 (.mov (.t 6)), oo 2 (.mov (.t 35)), oo 3 (.mov (.v (.bool true)))]) .skip))))) (.ops [oo 36 (.bin .add (.t 15) (.v (.int .i64 1))), oo 15 (.mov (.t 36))]))))))) (.seq (.ops [oo 37 (.mov (.t 2)), oo 38 (.mov (.t 3)), oo 2 (.mov (.t 37)), oo 3 (.mov (.t 38))]) .ret))))⟩
theorem c67 : aD Tryz.prog 67 = some F67 := by kernel_rfl
theorem uC {H0 H : AH} {c : Nat} {v : AV} {ts : List Nat} {ps : List Pl} (C : Cur H0 H c v ts ps) (hok : HN ps) : aC Tryz.prog 67 [.ptr c 0 0] H fun r H' => r = .tup [JR (cJ ps), .bool (cJ ps).isSome] ∧ H' = H := by
  refine aU c67 (by simp [F67]) ?_
  unfold F67
  have ob := C.o.ob
  simp only [List.length_cons, List.length_nil, List.nil_append, Nat.reduceAdd] at ob
  have ow := C.o.own 0 _ _ rfl rfl
  have he := dM ow
  have al := pC ow
  rw [List.length_map, C.len] at al
  have sc := dW ow
  have hn := hok.n
  simp only [push_cast, ↓reduceIte, Nat.reduceEqDiff, reduceCtorEq, Nat.reduceAdd, Nat.reduceLT, Nat.reduceLeDiff, aB, aA, ob, sc, al]
  refine aI (fun (s : Nat × Option (List Val)) f H' => H' = H ∧ s.1 ≤ ps.length ∧ f 13 = v ∧ f 14 = .int .i64 ps.length ∧ f 15 = .int .i64 s.1 ∧ f 2 = JR s.2 ∧ f 3 = .bool s.2.isSome ∧ s.2 = (ps.take s.1).foldl gX none ∧ ∀ k, s.2 = some k → k.length < 1099511627776) (fun s => ps.length - s.1) (0, none) ⟨rfl, Nat.zero_le _, rfl, rfl, rfl, rfl, rfl, rfl, fun k h => by cases h⟩ ?_
  rintro ⟨i, o⟩ f H' ⟨rfl, h1, e13, e14, e15, e2, e3, hs, hso⟩
  dsimp only at h1 e15 e2 e3 hs hso
  by_cases hi : i < ps.length
  · have hi' : (i : Int) < ps.length := by omega
    have hti : i < ts.length := by rw [C.len]; exact hi
    have ax : aF 1 v (.int .i64 (i : Int)) = some (ptk v i 0) := aK he (by rw [List.length_map]; exact hti) _
    have lx : (ts.map xM)[i]? = some (xM ts[i]) := by simp [hti]
    have hp := C.pl i ts[i] ps[i] (List.getElem?_eq_getElem hti) (List.getElem?_eq_getElem hi)
    have hsn : (ps.take (i + 1)).foldl gX none = gX o ps[i] := by rw [List.take_succ_eq_append_getElem hi, List.foldl_append, ← hs]; rfl
    have hm := List.getElem_mem hi
    have kp := RO hp (hok.kl _ hm) (hok.at_ _ hm)
    have hkr := hok.kr _ hm
    generalize ps[i] = p at hp hsn hm kp hkr
    generalize ts[i] = t at lx hp kp
    have le := aO he lx (List.prefix_refl H')
    simp only [push_cast, ↓reduceIte, Nat.reduceEqDiff, reduceCtorEq, Nat.reduceAdd, Nat.reduceLT, Nat.reduceLeDiff, aB, aA, e13, e14, e15, e2, e3, hi', ax, le, vN]
    refine kp.mono fun r H2 ⟨hr, hh⟩ => ?_
    subst hh
    have wi : IntKind.i64.wrap ((i : Int) + 1) = ((i + 1 : Nat) : Int) := by rw [aE (by omega) (by omega)]; omega
    have hle : i + 1 ≤ ps.length := hi
    have hms : ps.length - (i + 1) < ps.length - i := by omega
    cases hk : p.b.keys[p.at_]? with
    | none =>
      have hsl : gX o p = o := by simp [gX, Pl.key, hk]
      rw [hsl] at hsn
      rw [hk] at hr
      dsimp only at hr
      subst hr
      simp only [push_cast, ↓reduceIte, Nat.reduceEqDiff, reduceCtorEq, Nat.reduceAdd, Nat.reduceLT, Nat.reduceLeDiff, e13, e14, e15, e2, e3]
      exact ⟨(i + 1, o), ⟨hle, wi, rfl, rfl, hsn.symm, hso⟩, hms⟩
    | some k =>
      have hkl := hkr k (List.mem_of_getElem? hk)
      have hsk : ∀ x, some k = some x → x.length < 1099511627776 := fun x e => by cases e; exact hkl
      have hsl : gX o p = if rH k o = true then some k else o := by simp [gX, Pl.key, hk]
      rw [hsl] at hsn
      rw [hk] at hr
      dsimp only at hr
      subst hr
      cases o with
      | none =>
        have i0 : (none : Option (List Val)).isSome = false := rfl
        rw [show rH k none = true from rfl, if_pos rfl] at hsn
        simp only [push_cast, ↓reduceIte, Nat.reduceEqDiff, reduceCtorEq, Nat.reduceAdd, Nat.reduceLT, Nat.reduceLeDiff, e13, e14, e15, e2, e3, i0]
        exact ⟨(i + 1, some k), ⟨hle, wi, rfl, rfl, hsn.symm, hsk⟩, hms⟩
      | some o =>
        have i1 : (some o : Option (List Val)).isSome = true := rfl
        have hol := hso o rfl
        simp only [push_cast, ↓reduceIte, Nat.reduceEqDiff, reduceCtorEq, Nat.reduceAdd, Nat.reduceLT, Nat.reduceLeDiff, e13, e14, e15, e2, e3, i1]
        (refine aC.look (iM (aS k) (aS o) k o _ rfl rfl hkl hol) ?_; simp only [push_cast, ↓reduceIte, Nat.reduceEqDiff, reduceCtorEq, Nat.reduceAdd, Nat.reduceLT, Nat.reduceLeDiff, aB, aA, e13, e14, e15, e2, e3, i1])
        by_cases h : bG k o < 0
        · rw [if_pos (by simpa [rH] using h)] at hsn
          simp only [push_cast, ↓reduceIte, Nat.reduceEqDiff, reduceCtorEq, Nat.reduceAdd, Nat.reduceLT, Nat.reduceLeDiff, h, decide_true, e13, e14, e15, e2, e3, i1]
          exact ⟨(i + 1, some k), ⟨hle, wi, rfl, rfl, hsn.symm, hsk⟩, hms⟩
        · rw [if_neg (by simpa [rH] using h)] at hsn
          simp only [push_cast, ↓reduceIte, Nat.reduceEqDiff, reduceCtorEq, Nat.reduceAdd, Nat.reduceLT, Nat.reduceLeDiff, h, decide_false, e13, e14, e15, e2, e3, i1]
          exact ⟨(i + 1, some o), ⟨hle, wi, rfl, rfl, hsn.symm, hso⟩, hms⟩
  · have hi' : ¬ (i : Int) < ps.length := by omega
    simp only [push_cast, ↓reduceIte, Nat.reduceEqDiff, reduceCtorEq, Nat.reduceAdd, Nat.reduceLT, Nat.reduceLeDiff, e13, e14, e15, e2, e3, hi']
    rw [List.take_of_length_le (by omega)] at hs
    rw [hs]
    rfl
def F31 : AFn := ⟨11, 1, [.t 2], (.seq (.ops [oo 2 (.mov (.v (.bool false)))]) (.seq (.ops [oo 6 (.mov (.t 0)), oo 7 (.call 67 [(.t 6)]), oo 5 (.mov (.t 7)), oo 8 (.ext (.t 5) 0), oo 9 (.ext (.t 5) 1), oo 3 (.mov (.t 8)), oo 4 (.mov (.t 9))]) (.seq (.ops [oo 10 (.mov (.t 4)), oo 2 (.mov (.t 10))]) .ret)))⟩
theorem c31 : aD Tryz.prog 31 = some F31 := by kernel_rfl
theorem uD {H0 H : AH} {c : Nat} {v : AV} {ts : List Nat} {ps : List Pl} (C : Cur H0 H c v ts ps) (hok : HN ps) : aC Tryz.prog 31 [.ptr c 0 0] H fun r H' => r = .bool (cJ ps).isSome ∧ H' = H := by
  refine aG c31 (fun _ => rfl) (by simp [F31]) ?_
  unfold F31
  simp only [push_cast, ↓reduceIte, Nat.reduceEqDiff, reduceCtorEq, Nat.reduceAdd, Nat.reduceLT, Nat.reduceLeDiff]
  (refine aC.look (uC C hok) ?_; try simp only [push_cast, ↓reduceIte, Nat.reduceEqDiff, reduceCtorEq, Nat.reduceAdd, Nat.reduceLT, Nat.reduceLeDiff, aB, aA])
  (repeat (first | exact List.prefix_refl _ | refine List.IsPrefix.trans ?_ (List.prefix_append _ _)))
def F32 : AFn := ⟨12, 1, [.t 2], (.seq (.ops [oo 2 (.mov (.v .nils))]) (.seq (.ops [oo 6 (.mov (.t 0)), oo 7 (.call 67 [(.t 6)]), oo 5 (.mov (.t 7)), oo 8 (.ext (.t 5) 0), oo 9 (.ext (.t 5) 1), oo 3 (.mov (.t 8)), oo 4 (.mov (.t 9))]) (.seq (.ops [oo 10 (.mov (.t 3)), oo 11 (.call 68 [(.t 10)]), oo 2 (.mov (.t 11))]) .ret)))⟩
theorem c32 : aD Tryz.prog 32 = some F32 := by kernel_rfl
def F70 : AFn := ⟨19, 1, [.t 2], (.seq (.ops [oo 2 (.mov (.v .nils))]) (.seq (.ops [oo 6 (.mov (.t 0)), oo 7 (.call 67 [(.t 6)]), oo 5 (.mov (.t 7)), oo 8 (.ext (.t 5) 0), oo 9 (.ext (.t 5) 1), oo 3 (.alloc 1 .nils), on (.store 1 (.t 3) (.t 8)), oo 4 (.mov (.t 9))]) (.seq (.seq (.ops [oo 10 (.mov (.t 4)), oo 11 (.un .not (.t 10))]) (.cond (.t 11) (.seq (.ops [oo 2 (.mov (.v .nils))]) .ret) .skip)) (.seq (.ops [oo 12 (.mov (.t 0)), oo 13 (.nilc (.t 12)), oo 14 (.faddr 0 (.t 13)), oo 15 (.load false 1 (.t 14)), oo 16 (.call 93 [(.t 15)]), oo 17 (.mkf 94 [] [(.t 3)]), oo 18 (.call 92 [(.t 16), (.t 17)]), oo 2 (.mov (.t 18))]) .ret))))⟩
theorem c70 : aD Tryz.prog 70 = some F70 := by kernel_rfl
def F34 : AFn := ⟨26, 1, [.t 2], (.seq (.ops [oo 2 (.mov (.v .nils))]) (.seq (.ops [oo 3 (.mov (.v .nils))]) (.seq (.seq (.ops [oo 6 (.mov (.t 0)), oo 7 (.call 70 [(.t 6)]), oo 8 (.len (.t 7)), oo 9 (.mov (.v (.int .i64 0)))]) (.block 0 (.loop (.seq (.ops [oo 10 (.bin .lss (.t 9) (.t 8))]) (.seq (.cond (.t 10) .skip (.exit 0)) (.seq (.block 1 (.seq (.ops [oo 11 (.iaddr 1 (.t 7) (.t 9)), oo 12 (.load false 1 (.t 11)), oo 5 (.mov (.t 12))]) (.ops [oo 26 (.mov (.t 3)), oo 27 (.mov (.t 5)), oo 28 (.nilc (.t 27)), oo 29 (.faddr 0 (.t 28)), oo 30 (.load false 1 (.t 29)), oo 31 (.mov (.t 5)), oo 32 (.nilc (.t 31)), oo 33 (.faddr 2 (.t 32)), oo 34 (.load false 1 (.t 33)), oo 35 (.call 24 [(.t 30), (.t 34)]), oo 36 (.app 4 48 (.t 26) (.t 35)), oo 37 (.mov (.t 36)), oo 13 (.mov (.t 26)), oo 14 (.mov (.t 27)), oo 15 (.mov (.t 28)), oo 16 (.mov (.t 29)), oo 17 (.mov (.t 30)), oo 18 (.mov (.t 31)), oo 19 (.mov (.t 32)), oo 20 (.mov (.t 33)), oo 21 (.mov (.t 34)), oo 22 (.mov (.t 35)), oo 23 (.mov (.t 36)), oo 3 (.mov (.t 37))]))) (.ops [oo 24 (.bin .add (.t 9) (.v (.int .i64 1))), oo 9 (.mov (.t 24))]))))))) (.seq (.ops [oo 25 (.mov (.t 3)), oo 2 (.mov (.t 25))]) .ret))))⟩
theorem c34 : aD Tryz.prog 34 = some F34 := by kernel_rfl
def F36 : AFn := ⟨19, 1, [], (.seq (.ops [oo 4 (.mov (.t 0)), oo 5 (.call 70 [(.t 4)]), oo 6 (.len (.t 5)), oo 7 (.mov (.v (.int .i64 0)))]) (.block 0 (.loop (.seq (.ops [oo 8 (.bin .lss (.t 7) (.t 6))]) (.seq (.cond (.t 8) .skip (.exit 0)) (.seq (.block 1 (.seq (.ops [oo 9 (.iaddr 1 (.t 5) (.t 7)), oo 10 (.load false 1 (.t 9)), oo 3 (.mov (.t 10))]) (.ops [oo 11 (.mov (.t 3)), oo 12 (.nilc (.t 11)), oo 13 (.faddr 2 (.t 12)), oo 14 (.load false 1 (.t 13)), oo 15 (.bin .add (.t 14) (.v (.int .i64 1))), oo 16 (.nilc (.t 11)), oo 17 (.faddr 2 (.t 16)), on (.store 1 (.t 17) (.t 15))]))) (.ops [oo 18 (.bin .add (.t 7) (.v (.int .i64 1))), oo 7 (.mov (.t 18))])))))))⟩
theorem c36 : aD Tryz.prog 36 = some F36 := by kernel_rfl
end Go.Eng
end
section
set_option linter.unusedVariables false
set_option linter.unusedSimpArgs false
set_option maxRecDepth 10000
namespace Go.Eng
open Go Go.Proofs
theorem uE {P : Program} {hh : Nat → Bool} {g : FuncId} {F : AFn} (hc : iY P hh g = some F) {args : List AV} {H : AH} {v : AV} (hv : cl H.length v = true) (hn : args.length ≤ F.n) (h : F.body.wp P (KG F.res fun r H' => ∃ H2, bZ H' r H2 v ∧ H <+: H2) (kW args) H) : aC P g args H fun r H' => r = v ∧ H' = H :=
  (aC.gc (R := fun x _ => x = v) (((aU hc hn h).weak (R' := fun r H' => H <+: H' ∧ r = v) fun r H' ⟨H2, h1, h2⟩ => ⟨v, H2, h1, h2, rfl⟩).mono fun x H' ⟨hp, e⟩ => ⟨hp, by rw [e]; exact hv, e⟩)).mono fun x H' ⟨e, _, e2⟩ => ⟨e2, e⟩
abbrev ZP := Nat × Pl
def gO (q : ZP) : AV := .ptr q.1 0 0
def OL (D : ZP → Bool) (zs : List ZP) : Int := match zs.findIdx? D with | none => -1 | some i => (i : Int)
def MV (v : AV) (H H' : AH) : Prop := ∀ u o, idx v ≠ some u → obj? H u = some o → obj? H' u = some o
def MW (D : ZP → Bool) (zs : List ZP) (g : FuncId) (bs : List AV) (H : AH) : Prop := ∀ q ∈ zs, aC Tryz.prog g (.ptr q.1 0 0 :: bs) H fun r H' => r = .bool (D q) ∧ H' = H
def VG : AFn := ⟨19, 2, [.t 4], (.seq (.ops [oo 4 (.mov (.v (.int .i64 0)))]) (.seq (.seq (.ops [oo 6 (.mov (.t 0)), oo 7 (.len (.t 6)), oo 8 (.mov (.v (.int .i64 0)))]) (.block 0 (.loop (.seq (.ops [oo 9 (.bin .lss (.t 8) (.t 7))]) (.seq (.cond (.t 9) .skip (.exit 0)) (.seq (.block 1 (.seq (.ops [oo 10 (.mov (.t 8)), oo 5 (.mov (.t 10))]) (.seq (.ops [oo 11 (.mov (.t 1)), oo 12 (.mov (.t 0)), oo 13 (.mov (.t 5)), oo 14 (.iaddr 1 (.t 12) (.t 13)), oo 15 (.load false 1 (.t 14)), oo 16 (.callv (.t 11) [(.t 15)])]) (.cond (.t 16) (.seq (.ops [oo 17 (.mov (.t 5)), oo 4 (.mov (.t 17))]) .ret) .skip)))) (.ops [oo 18 (.bin .add (.t 8) (.v (.int .i64 1))), oo 8 (.mov (.t 18))]))))))) (.seq (.ops [oo 4 (.mov (.v (.int .i64 (-1))))]) .ret)))⟩
theorem WX : aD Tryz.prog 114 = some VG := by kernel_rfl
theorem MX {D : ZP → Bool} {zs : List ZP} {g : FuncId} {bs : List AV} {v : AV} {H : AH} (hv : elems 1 v H = some (zs.map gO)) (hl : zs.length < 1099511627776) (hc : MW D zs g bs H) : aC Tryz.prog 114 [v, .fn g [] bs] H fun r H' => r = .int .i64 (OL D zs) ∧ H' = H := by
  refine aG WX (fun _ => rfl) (by simp [VG]) ?_
  unfold VG
  have la := aL hv
  rw [List.length_map] at la
  simp only [push_cast, ↓reduceIte, Nat.reduceEqDiff, reduceCtorEq, Nat.reduceAdd, Nat.reduceLT, Nat.reduceLeDiff, la]
  refine aI (fun (i : Nat) f H' => H' = H ∧ i ≤ zs.length ∧ f 0 = v ∧ f 1 = .fn g [] bs ∧ f 7 = .int .i64 zs.length ∧ f 8 = .int .i64 i ∧ ∀ k (h : k < zs.length), k < i → D zs[k] = false) (fun i => zs.length - i) 0 ⟨rfl, Nat.zero_le _, rfl, rfl, rfl, rfl, fun k _ h => absurd h (Nat.not_lt_zero _)⟩ ?_
  rintro i f H' ⟨rfl, h1, e0, e1, e7, e8, hd⟩
  by_cases hi : i < zs.length
  · have hi' : (i : Int) < zs.length := by omega
    have w1 : IntKind.i64.wrap ((i : Int) + 1) = ((i + 1 : Nat) : Int) := by rw [aE (by omega) (by omega)]; omega
    have ax : aF 1 v (.int .i64 (i : Int)) = some (ptk v i 0) := aK hv (by rw [List.length_map]; exact hi) _
    have lx : (zs.map gO)[i]? = some (gO zs[i]) := by simp [hi]
    have le : ∀ (ag : Bool) (s c : Nat), cG ag s (ptk v i c) H' = part ag s c (gO zs[i]) := aO hv lx (List.prefix_refl H')
    have p0 : ∀ q : ZP, part false 1 0 (gO q) = some (.ptr q.1 0 0) := fun _ => rfl
    have hcq := hc zs[i] (List.getElem_mem hi)
    simp only [push_cast, ↓reduceIte, Nat.reduceEqDiff, reduceCtorEq, Nat.reduceAdd, Nat.reduceLT, Nat.reduceLeDiff, aB, aA, e0, e1, e7, e8, hi', ax, le, p0]
    refine aC.look hcq ?_
    cases hD : D zs[i] with
    | true =>
      have e : OL D zs = (i : Int) := by
        unfold OL
        rw [List.findIdx?_eq_some_iff_getElem.2 ⟨hi, hD, fun j hj => by rw [hd j (by omega) hj]; decide⟩]
      rw [e]
      simp only [push_cast, ↓reduceIte, Nat.reduceEqDiff, reduceCtorEq, Nat.reduceAdd, Nat.reduceLT, Nat.reduceLeDiff, e0, e1, e7, e8]
      (repeat (first | exact List.prefix_refl _ | refine List.IsPrefix.trans ?_ (List.prefix_append _ _)))
    | false =>
      simp only [push_cast, ↓reduceIte, Nat.reduceEqDiff, reduceCtorEq, Nat.reduceAdd, Nat.reduceLT, Nat.reduceLeDiff, e0, e1, e7, e8]
      refine ⟨i + 1, ⟨hi, by rw [w1], fun k hk hki => ?_⟩, by omega⟩
      by_cases h2 : k < i
      · exact hd k hk h2
      · obtain rfl : k = i := by omega
        exact hD
  · have hi' : ¬ (i : Int) < zs.length := by omega
    have e : OL D zs = -1 := by
      unfold OL
      rw [List.findIdx?_eq_none_iff.2 fun x hx => by
        obtain ⟨k, hk, rfl⟩ := List.mem_iff_getElem.1 hx
        exact hd k hk (by omega)]
    rw [e]
    simp only [push_cast, ↓reduceIte, Nat.reduceEqDiff, reduceCtorEq, Nat.reduceAdd, Nat.reduceLT, Nat.reduceLeDiff, e0, e1, e7, e8, hi']
    (repeat (first | exact List.prefix_refl _ | refine List.IsPrefix.trans ?_ (List.prefix_append _ _)))
def jD (D : ZP → Bool) (zs : List ZP) : List ZP := zs.filter fun q => !D q
def HO (D : ZP → Bool) (zs : List ZP) : AV := .list 1 ((jD D zs).map gO) false
def DB : AC := (.block 0 (.loop (.seq (.seq (.ops [oo 16 (.mov (.t 6)), oo 17 (.mov (.t 0)), oo 18 (.len (.t 17)), oo 19 (.bin .lss (.t 16) (.t 18))]) (.cond (.t 19) .skip (.exit 0))) (.seq (.block 1 (.seq (.ops [oo 22 (.mov (.t 0)), oo 23 (.mov (.t 6)), oo 24 (.iaddr 1 (.t 22) (.t 23)), oo 25 (.load false 1 (.t 24)), oo 7 (.mov (.t 25))]) (.seq (.ops [oo 26 (.mov (.t 1)), oo 27 (.mov (.t 7)), oo 28 (.callv (.t 26) [(.t 27)]), oo 29 (.un .not (.t 28))]) (.cond (.t 29) (.seq (.ops [oo 30 (.mov (.t 0)), oo 31 (.mov (.t 5)), oo 32 (.mov (.t 7)), oo 33 (.iaddr 1 (.t 30) (.t 31)), on (.store 1 (.t 33) (.t 32))]) (.ops [oo 34 (.mov (.t 5)), oo 35 (.bin .add (.t 34) (.v (.int .i64 1))), oo 5 (.mov (.t 35))])) .skip)))) (.ops [oo 20 (.mov (.t 6)), oo 21 (.bin .add (.t 20) (.v (.int .i64 1))), oo 6 (.mov (.t 21))])))))
def F92 : AFn := ⟨42, 2, [.t 4], (.seq (.ops [oo 4 (.mov (.v .nils))]) (.seq (.ops [oo 8 (.mov (.t 0)), oo 9 (.mov (.t 1)), oo 10 (.call 114 [(.t 8), (.t 9)]), oo 5 (.mov (.t 10))]) (.seq (.seq (.ops [oo 11 (.mov (.t 5)), oo 12 (.bin .eql (.t 11) (.v (.int .i64 (-1))))]) (.cond (.t 12) (.seq (.ops [oo 13 (.mov (.t 0)), oo 4 (.mov (.t 13))]) .ret) .skip)) (.seq (.seq (.ops [oo 14 (.mov (.t 5)), oo 15 (.bin .add (.t 14) (.v (.int .i64 1))), oo 6 (.mov (.t 15))]) (DB)) (.seq (.ops [oo 36 (.mov (.t 0)), oo 37 (.mov (.t 5)), oo 38 (.slice 1 (.t 36) (some (.t 37)) none none), on (.clr 1 .nilp (.t 38))]) (.seq (.ops [oo 39 (.mov (.t 0)), oo 40 (.mov (.t 5)), oo 41 (.slice 1 (.t 39) none (some (.t 40)) none), oo 4 (.mov (.t 41))]) .ret))))))⟩
theorem c92 : aD Tryz.prog 92 = some F92 := by kernel_rfl
theorem mZ (D : ZP → Bool) (zs : List ZP) {j : Nat} (hj : j < zs.length) : jD D (zs.take (j + 1)) = jD D (zs.take j) ++ (if D zs[j] = true then [] else [zs[j]]) := by
  rw [← List.take_append_getElem hj]
  unfold jD
  rw [List.filter_append, List.filter_cons]
  cases D zs[j] <;> rfl
structure WA (D : ZP → Bool) (zs : List ZP) (H H' : AH) (t w j : Nat) (L : List AV) : Prop where
  hh : H' = List.set H t (.live 1 L)
  len : L.length = zs.length
  j1 : j ≤ zs.length
  w1 : w < j
  wl : (jD D (zs.take j)).length = w
  tk : L.take w = (jD D (zs.take j)).map gO
  dr : ∀ k, j ≤ k → L[k]? = (zs.map gO)[k]?
  al : ∀ x ∈ L, ∃ m, x = .ptr m 0 0
theorem RP {D : ZP → Bool} {zs : List ZP} {g : FuncId} {bs : List AV} {t i : Nat} {ex : Bool} {H : AH} {f : AF} {Q : AE → AF → AH → Prop} (hb : obj? H t = some (1, zs.map gO)) (hl : zs.length < 1099511627776) (hc : ∀ L, MW D zs g bs (List.set H t (.live 1 L)))
    (hi : i < zs.length) (hD : D zs[i] = true) (hlow : ∀ k (h : k < zs.length), k < i → D zs[k] = false)
    (e0 : f 0 = .ref 1 t 0 zs.length zs.length ex) (e1 : f 1 = .fn g [] bs) (e5 : f 5 = .int .i64 i) (e6 : f 6 = .int .i64 (i + 1 : Nat))
    (hQ : ∀ f2 H2 w L, WA D zs H H2 t w zs.length L → f2 0 = .ref 1 t 0 zs.length zs.length ex → f2 5 = .int .i64 w → Q .normal f2 H2) : DB.wp Tryz.prog Q f H := by
  unfold DB
  have hset : List.set H t (.live 1 (zs.map gO)) = H := by
    have := obj?_some hb
    exact List.ext_getElem? fun k => by
      rw [List.getElem?_set]
      split
      · rename_i e; subst e; rw [if_pos (aY hb), this]
      · rfl
  have hlow2 : jD D (zs.take i) = zs.take i := by
    unfold jD
    rw [List.filter_eq_self]
    intro q hq
    obtain ⟨k, hk, rfl⟩ := List.mem_iff_getElem.1 hq
    rw [List.length_take] at hk
    rw [List.getElem_take, hlow k (by omega) (by omega)]
    rfl
  have hkk : jD D (zs.take (i + 1)) = zs.take i := by rw [mZ D zs hi, if_pos hD, List.append_nil, hlow2]
  simp only [push_cast, ↓reduceIte, Nat.reduceEqDiff, reduceCtorEq, Nat.reduceAdd, Nat.reduceLT, Nat.reduceLeDiff]
  refine aI (fun (s : Nat × Nat × List AV) f H' => WA D zs H H' t s.1 s.2.1 s.2.2 ∧ f 0 = .ref 1 t 0 zs.length zs.length ex ∧ f 1 = .fn g [] bs ∧ f 5 = .int .i64 s.1 ∧ f 6 = .int .i64 s.2.1) (fun s => zs.length - s.2.1) (i, i + 1, zs.map gO) ⟨⟨hset.symm, by simp, hi, Nat.lt_succ_self i, by rw [hkk, List.length_take]; dsimp only; omega, by dsimp only; rw [hkk, List.map_take], fun k _ => rfl, fun x hx => by obtain ⟨q, _, rfl⟩ := List.mem_map.1 hx; exact ⟨q.1, rfl⟩⟩, e0, e1, e5, e6⟩ ?_
  clear e0 e1 e5 e6
  rintro ⟨w, j, L⟩ f H' ⟨I, e0, e1, e5, e6⟩
  dsimp only at I e5 e6
  have hw := I.w1
  have hlen := I.len
  by_cases hj : j < zs.length
  · have hj' : (j : Int) < zs.length := by omega
    have wj : IntKind.i64.wrap ((j : Int) + 1) = ((j + 1 : Nat) : Int) := by rw [aE (by omega) (by omega)]; omega
    have ww : IntKind.i64.wrap ((w : Int) + 1) = ((w + 1 : Nat) : Int) := by rw [aE (by omega) (by omega)]; omega
    have ob : obj? H' t = some (1, L) := by rw [I.hh]; exact bP (aY hb)
    have aj : aF 1 (.ref 1 t 0 zs.length zs.length ex) (.int .i64 (j : Int)) = some (.ptr t j 0) := by simp [aF, nat?, hj]
    have aw : aF 1 (.ref 1 t 0 zs.length zs.length ex) (.int .i64 (w : Int)) = some (.ptr t w 0) := by simp [aF, nat?, show w < zs.length by omega]
    have lj : L[j]? = some (gO zs[j]) := by rw [I.dr j (Nat.le_refl _)]; simp [hj]
    have p0 : ∀ q : ZP, part false 1 0 (gO q) = some (.ptr q.1 0 0) := fun _ => rfl
    have hcq := hc L zs[j] (List.getElem_mem hj)
    rw [← I.hh] at hcq
    have hks := mZ D zs hj
    simp only [push_cast, ↓reduceIte, Nat.reduceEqDiff, reduceCtorEq, Nat.reduceAdd, Nat.reduceLT, Nat.reduceLeDiff, aB, aA, e0, e1, e5, e6, hj', aj, ob, lj, p0]
    refine aC.look hcq ?_
    cases hDj : D zs[j] with
    | true =>
      rw [hDj, if_pos rfl, List.append_nil] at hks
      have nt : (!true) = false := rfl
      simp only [push_cast, ↓reduceIte, Nat.reduceEqDiff, reduceCtorEq, Nat.reduceAdd, Nat.reduceLT, Nat.reduceLeDiff, e0, e1, e5, e6, nt]
      exact ⟨(w, j + 1, L), ⟨⟨I.hh, hlen, hj, by dsimp only; omega, by dsimp only; rw [hks]; exact I.wl, by dsimp only; rw [hks]; exact I.tk, fun k hk => I.dr k (by dsimp only at hk; omega), I.al⟩, by dsimp only; rw [wj]; exact ⟨rfl, rfl⟩⟩, by dsimp only; omega⟩
    | false =>
      rw [hDj, if_neg (by decide)] at hks
      have nt : (!false) = true := rfl
      have cp : ∀ a : Nat, cells (.ptr a 0 0) = [.ptr a 0 0] := fun _ => rfl
      obtain ⟨m, hm⟩ := I.al _ (List.getElem_mem (show w < L.length by omega))
      have lw : L[w]? = some (.ptr m 0 0) := by rw [← hm]; exact List.getElem?_eq_getElem (by omega)
      have pp : kK (.ptr m 0 0) 0 [.ptr zs[j].1 0 0] = .ptr zs[j].1 0 0 := rfl
      simp only [push_cast, ↓reduceIte, Nat.reduceEqDiff, reduceCtorEq, Nat.reduceAdd, Nat.reduceLT, Nat.reduceLeDiff, aB, aA, e0, e1, e5, e6, nt, aw, ob, lw, cp, pp]
      refine ⟨(w + 1, j + 1, L.set w (.ptr zs[j].1 0 0)), ⟨⟨?_, by simp [hlen], hj, by dsimp only; omega, ?_, ?_, fun k hk => ?_, fun x hx => ?_⟩, ww, wj⟩, by dsimp only; omega⟩
      · rw [I.hh, List.set_set]
      · dsimp only; rw [hks, List.length_append, I.wl]; rfl
      · dsimp only
        rw [hks, List.map_append, ← I.tk, List.take_succ_eq_append_getElem (by simp; omega)]
        rw [List.take_set_of_le (Nat.le_refl _), List.getElem_set_self]
        rfl
      · dsimp only at hk ⊢
        rw [List.getElem?_set_ne (by omega)]
        exact I.dr k (by omega)
      · rcases List.mem_or_eq_of_mem_set hx with h | h
        · exact I.al x h
        · exact ⟨_, h⟩
  · have hj' : ¬ (j : Int) < zs.length := by omega
    obtain rfl : j = zs.length := by have := I.j1; omega
    simp only [push_cast, ↓reduceIte, Nat.reduceEqDiff, reduceCtorEq, Nat.reduceAdd, Nat.reduceLT, Nat.reduceLeDiff, e0, e1, e5, e6, hj']
    exact hQ _ _ w L I e0 e5
theorem HP {D : ZP → Bool} {zs : List ZP} {g : FuncId} {bs : List AV} {v : AV} {H0 H : AH} (ho : Own H0 H 1 v (zs.map gO)) (hp : H0 <+: H) (hl : zs.length < 1099511627776) (hc : ∀ H', MV v H H' → MW D zs g bs H') :
    aC Tryz.prog 92 [v, .fn g [] bs] H fun r H' => ∃ H2, bZ H' r H2 (HO D zs) ∧ H0 <+: H2 := by
  refine aU c92 (by simp [F92]) ?_
  unfold F92
  have hv := dM ho
  simp only [push_cast, ↓reduceIte, Nat.reduceEqDiff, reduceCtorEq, Nat.reduceAdd, Nat.reduceLT, Nat.reduceLeDiff]
  (refine aC.look (MX (D := D) hv hl (hc H fun u o _ h => h)) ?_; try simp only [push_cast, ↓reduceIte, Nat.reduceEqDiff, reduceCtorEq, Nat.reduceAdd, Nat.reduceLT, Nat.reduceLeDiff, aB, aA])
  unfold OL
  cases hf : zs.findIdx? D with
  | none =>
    have hk : jD D zs = zs := by
      unfold jD
      rw [List.filter_eq_self]
      intro q hq
      rw [List.findIdx?_eq_none_iff.1 hf q hq]
      rfl
    dsimp only
    simp only [push_cast, ↓reduceIte, Nat.reduceEqDiff, reduceCtorEq, Nat.reduceAdd, Nat.reduceLT, Nat.reduceLeDiff]
    unfold HO
    rw [hk]
    exact ho.weak hp
  | some i =>
    obtain ⟨hi, hD, hlow⟩ := List.findIdx?_eq_some_iff_getElem.1 hf
    have hne : ¬ (i : Int) = -1 := by omega
    have w1 : IntKind.i64.wrap ((i : Int) + 1) = ((i + 1 : Nat) : Int) := by rw [aE (by omega) (by omega)]; omega
    dsimp only
    rcases ho with ⟨rfl, hz⟩ | ⟨t, ex, ht, rfl, hob⟩
    · rw [List.map_eq_nil_iff] at hz
      rw [hz] at hi
      exact absurd hi (Nat.not_lt_zero _)
    · rw [List.length_map]
      simp only [push_cast, ↓reduceIte, Nat.reduceEqDiff, reduceCtorEq, Nat.reduceAdd, Nat.reduceLT, Nat.reduceLeDiff, hne, decide_false, w1]
      refine RP (D := D) (t := t) (ex := ex) hob hl (fun L => hc _ fun u o hu h => by rw [bF (fun e => hu (by rw [← e, idx]))]; exact h) hi hD (fun k h hk => by have := hlow k hk; simpa using this) (by rfl) (by rfl) (by rfl) (by rfl) fun f2 H2 w L I e0 e5 => ?_
      have hw := I.w1
      have hb2 : obj? H2 t = some (1, L) := by rw [I.hh]; exact bP (aY hob)
      have s1 : ∀ f : AF, f 37 = .int .i64 (w : Int) → dT f 1 (.ref 1 t 0 zs.length zs.length ex) (some (.t 37)) none none = some (.ref 1 t w (zs.length - w) (zs.length - w) ex) := fun f h => by
        have h2 : ev f (.t 37) = .int .i64 (w : Int) := h
        simp [dT, jR, h2, nat?, Nat.le_of_lt hw]
      have s2 : ∀ f : AF, f 40 = .int .i64 (w : Int) → dT f 1 (.ref 1 t 0 zs.length zs.length ex) none (some (.t 40)) none = some (.ref 1 t 0 w zs.length ex) := fun f h => by
        have h2 : ev f (.t 40) = .int .i64 (w : Int) := h
        simp [dT, jR, h2, nat?, Nat.le_of_lt hw]
      have hcl : OM 1 .nilp (.ref 1 t w (zs.length - w) (zs.length - w) ex) H2 = some (List.set H2 t (.live 1 (L.take w ++ List.replicate (zs.length - w) .nilp ++ L.drop (w + (zs.length - w))))) := by
        simp [OM, hb2, show ¬ zs.length - w = 0 by omega, show w + (zs.length - w) ≤ L.length by have := I.len; omega]
      simp only [push_cast, ↓reduceIte, Nat.reduceEqDiff, reduceCtorEq, Nat.reduceAdd, Nat.reduceLT, Nat.reduceLeDiff, e0, e5]
      rw [s1 _ (by rfl)]
      simp only [push_cast, ↓reduceIte, Nat.reduceEqDiff, reduceCtorEq, Nat.reduceAdd, Nat.reduceLT, Nat.reduceLeDiff, e0, e5, hcl]
      rw [s2 _ (by rfl)]
      simp only [push_cast, ↓reduceIte, Nat.reduceEqDiff, reduceCtorEq, Nat.reduceAdd, Nat.reduceLT, Nat.reduceLeDiff]
      have hob2 : obj? (List.set H2 t (.live 1 (L.take w ++ List.replicate (zs.length - w) .nilp ++ L.drop (w + (zs.length - w))))) t = some (1, L.take w ++ List.replicate (zs.length - w) .nilp ++ L.drop (w + (zs.length - w))) := bP (aY hb2)
      have htw : ((L.take w ++ List.replicate (zs.length - w) AV.nilp ++ L.drop (w + (zs.length - w))).drop 0).take w = (jD D zs).map gO := by
        have htk := I.tk
        rw [List.take_length] at htk
        rw [List.drop_zero, List.append_assoc, List.take_append_of_le_length (by rw [List.length_take, I.len]; omega), List.take_take, Nat.min_self, htk]
      have hle : 0 + w ≤ (L.take w ++ List.replicate (zs.length - w) AV.nilp ++ L.drop (w + (zs.length - w))).length := by
        simp only [List.length_append, List.length_take, List.length_replicate, List.length_drop, I.len]
        omega
      have hfz := (Frz.ref (off := 0) (n := w) (c := zs.length) (ex := ex) hob2 hle).weak
      rw [htw] at hfz
      refine ⟨_, hfz, ?_⟩
      rw [I.hh]
      exact bM (bM (bM hp ht _) ht _) ht _
def eN (k : List Val) (p : Pl) : Bool := match p.key with | some x => decide (bG x k = 0) | none => false
def F94 : AFn := ⟨19, 1, [.t 3], (.seq (.ops [oo 3 (.mov (.v (.bool false)))]) (.seq (.ops [oo 7 (.mov (.t 0)), oo 8 (.call 91 [(.t 7)]), oo 6 (.mov (.t 8)), oo 9 (.ext (.t 6) 0), oo 10 (.ext (.t 6) 1), oo 4 (.mov (.t 9)), oo 5 (.mov (.t 10))]) (.seq (.ops [oo 11 (.mov (.t 5)), oo 12 (.un .not (.t 11)), oo 13 (.mov (.t 12)), og 14 13 false (.mov (.t 4)), og 15 13 false (.load false 1 (.t 1)), og 16 13 false (.call 83 [(.t 14), (.t 15)]), og 17 13 false (.un .not (.t 16)), oo 18 (.pick (.t 13) (.v (.bool true)) (.t 17)), oo 3 (.mov (.t 18))]) .ret)))⟩
theorem c94 : aD Tryz.prog 94 = some F94 := by kernel_rfl
theorem VH {H : AH} {t c : Nat} {p : Pl} {k : List Val} (h : obj? H t = some (3, [plC p])) (hl : p.b.keys.length < 1099511627776) (ha : p.at_ ≤ p.b.keys.length) (hr : ∀ x ∈ p.b.keys, x.length < 1099511627776) (hk : k.length < 1099511627776) (hc : obj? H c = some (1, [aS k])) :
    aC Tryz.prog 94 [.ptr t 0 0, .ptr c 0 0] H fun r H' => r = .bool (!eN k p) ∧ H' = H := by
  refine aG c94 (fun _ => rfl) (by simp [F94]) ?_
  unfold F94
  have pr : part false 1 0 (aS k) = some (aS k) := rfl
  simp only [push_cast, ↓reduceIte, Nat.reduceEqDiff, reduceCtorEq, Nat.reduceAdd, Nat.reduceLT, Nat.reduceLeDiff]
  refine (RO h hl ha).mono fun r H' ⟨hr2, hh⟩ => ?_
  subst hh
  unfold eN Pl.key
  cases hx : p.b.keys[p.at_]? with
  | none =>
    rw [hx] at hr2
    dsimp only at hr2
    subst hr2
    have nt : (!false) = true := rfl
    simp only [push_cast, ↓reduceIte, Nat.reduceEqDiff, reduceCtorEq, Nat.reduceAdd, Nat.reduceLT, Nat.reduceLeDiff, nt]
    (repeat (first | exact List.prefix_refl _ | refine List.IsPrefix.trans ?_ (List.prefix_append _ _)))
  | some x =>
    have hxl := hr x (List.mem_of_getElem? hx)
    rw [hx] at hr2
    dsimp only at hr2
    subst hr2
    have nt : (!true) = false := rfl
    simp only [push_cast, ↓reduceIte, Nat.reduceEqDiff, reduceCtorEq, Nat.reduceAdd, Nat.reduceLT, Nat.reduceLeDiff, aB, aA, nt, hc, pr]
    (refine aC.look (CA (aS x) (aS k) x k _ rfl rfl hxl hk) ?_; try simp only [push_cast, ↓reduceIte, Nat.reduceEqDiff, reduceCtorEq, Nat.reduceAdd, Nat.reduceLT, Nat.reduceLeDiff, aB, aA])
    (repeat (first | exact List.prefix_refl _ | refine List.IsPrefix.trans ?_ (List.prefix_append _ _)))
theorem jE : ∀ (ps : List Pl) (o : Option (List Val)) (k : List Val), ps.foldl gX o = some k → o = some k ∨ ∃ p ∈ ps, p.key = some k
  | [], o, k, h => .inl h
  | p :: r, o, k, h => by
    rw [List.foldl_cons] at h
    rcases jE r _ k h with h1 | ⟨q, hq, h1⟩
    · unfold gX at h1
      cases hk : p.key with
      | none => rw [hk] at h1; exact .inl h1
      | some x =>
        rw [hk] at h1
        dsimp only at h1
        split at h1
        · exact .inr ⟨p, List.mem_cons_self, by rw [hk]; exact h1⟩
        · exact .inl h1
    · exact .inr ⟨q, List.mem_cons_of_mem _ hq, h1⟩
theorem HN.least {ps : List Pl} (h : HN ps) {k : List Val} (hk : cJ ps = some k) : k.length < 1099511627776 := by
  rcases jE ps none k hk with e | ⟨p, hp, e⟩
  · cases e
  · exact h.kr p hp k (List.mem_of_getElem? e)
def gY (ts : List Nat) (ps : List Pl) : List ZP := ts.zip ps
theorem MY {ts : List Nat} {ps : List Pl} (h : ts.length = ps.length) : (gY ts ps).map gO = ts.map xM := by
  have : ∀ (ts : List Nat) (ps : List Pl), ts.length = ps.length → (ts.zip ps).map gO = ts.map xM := by
    intro ts
    induction ts with
    | nil => intro ps _; rfl
    | cons t r ih =>
      intro ps h
      cases ps with
      | nil => simp at h
      | cons p q => simp only [List.zip_cons_cons, List.map_cons, ih q (by simpa using h)]; rfl
  exact this ts ps h
def cX (zs : List ZP) (k : List Val) : List ZP := zs.filter fun q => eN k q.2
def xP (ts : List Nat) (ps : List Pl) : AV := match cJ ps with | none => .nils | some k => .list 1 ((cX (gY ts ps) k).map gO) false
theorem pF {H0 H : AH} {c : Nat} {v : AV} {ts : List Nat} {ps : List Pl} (C : Cur H0 H c v ts ps) {q : ZP} (hq : q ∈ gY ts ps) : obj? H q.1 = some (3, [plC q.2]) ∧ q.2 ∈ ps ∧ q.1 ∈ ts := by
  obtain ⟨i, hi, rfl⟩ := List.mem_iff_getElem.1 hq
  unfold gY at hi ⊢
  have hi2 := hi
  rw [List.length_zip] at hi2
  rw [List.getElem_zip]
  exact ⟨C.pl i _ _ (List.getElem?_eq_getElem (by omega)) (List.getElem?_eq_getElem (by omega)), List.getElem_mem (by omega), List.getElem_mem (by omega)⟩
theorem RQ (x : AV) (l : List AV) (H : AH) (hx : elems 1 x H = some l) (hl : l.length < 1099511627776) : aC Tryz.prog 93 [x] H fun r H' => Own H H' 1 r l ∧ H <+: H' :=
  gB (bytes := 8) (z := .nilp) (by kernel_rfl) x l H hx (by omega)
theorem JS {H0 H : AH} {c : Nat} {v : AV} {ts : List Nat} {ps : List Pl} (C : Cur H0 H c v ts ps) (hok : HN ps) : aC Tryz.prog 70 [.ptr c 0 0] H fun r H' => r = xP ts ps ∧ H' = H := by
  have hcl : cl H.length (xP ts ps) = true := by
    unfold xP
    split
    · rfl
    · rename_i k _
      show cls H.length ((cX (gY ts ps) k).map gO) = true
      rw [lA]
      intro x hx
      obtain ⟨q, hq, rfl⟩ := List.mem_map.1 hx
      have := aY (pF C (List.mem_filter.1 hq).1).1
      exact decide_eq_true this
  refine uE c70 hcl (by simp [F70]) ?_
  unfold F70
  have ob := C.o.ob
  simp only [List.length_cons, List.length_nil, List.nil_append, Nat.reduceAdd] at ob
  have ow := C.o.own 0 _ _ rfl rfl
  have sc := dW ow
  simp only [push_cast, ↓reduceIte, Nat.reduceEqDiff, reduceCtorEq, Nat.reduceAdd, Nat.reduceLT, Nat.reduceLeDiff]
  (refine aC.look (uC C hok) ?_; try simp only [push_cast, ↓reduceIte, Nat.reduceEqDiff, reduceCtorEq, Nat.reduceAdd, Nat.reduceLT, Nat.reduceLeDiff, aB, aA])
  unfold xP
  cases hk : cJ ps with
  | none =>
    have i0 : (none : Option (List Val)).isSome = false := rfl
    have nt : (!false) = true := rfl
    have cn : cells (JR none) = [JR none] := rfl
    have cs : dH (JR none) = true := rfl
    have pc : ∀ x, kK .nils 0 [x] = x := fun _ => rfl
    simp only [push_cast, ↓reduceIte, Nat.reduceEqDiff, reduceCtorEq, Nat.reduceAdd, Nat.reduceLT, Nat.reduceLeDiff, aB, aA, i0, nt, cn, cs, pc]
    exact ⟨_, bZ.refl _ _, List.prefix_append _ _⟩
  | some k =>
    have i0 : (some k : Option (List Val)).isSome = true := rfl
    have nt : (!true) = false := rfl
    have cn : cells (JR (some k)) = [aS k] := rfl
    have cs : dH (aS k) = true := rfl
    have hC := C.mono (J := [.live 1 [aS k]])
    have ob1 := bB (List.prefix_append H [.live 1 [aS k]]) ob
    have pc : ∀ x, kK .nils 0 [x] = x := fun _ => rfl
    have hkl := hok.least hk
    have hn := hok.n
    have hcl2 := C.len
    have hze := MY hcl2
    have hzl : (gY ts ps).length = ps.length := by unfold gY; rw [List.length_zip, hcl2, Nat.min_self]
    simp only [push_cast, ↓reduceIte, Nat.reduceEqDiff, reduceCtorEq, Nat.reduceAdd, Nat.reduceLT, Nat.reduceLeDiff, aB, aA, i0, nt, cn, cs, pc, ob1, sc]
    refine (RQ v (ts.map xM) _ (dM (hC.o.own 0 _ _ rfl rfl)) (by rw [List.length_map]; omega)).mono fun r H2 ⟨h1, hp1⟩ => ?_
    simp only [push_cast, ↓reduceIte, Nat.reduceEqDiff, reduceCtorEq, Nat.reduceAdd, Nat.reduceLT, Nat.reduceLeDiff]
    rw [← hze] at h1
    have hob := bB hp1 (bA H 1 [aS k])
    refine (HP (D := fun q => !eN k q.2) h1 hp1 (by omega) (fun H' hs q hq => ?_)).mono fun r H3 ⟨H4, w1, w2⟩ => ?_
    · obtain ⟨z1, z2, z3⟩ := pF C hq
      have hq1 : ∀ u o, obj? H u = some o → obj? H' u = some o := fun u o h => by
        have h2 := bB hp1 (bB (List.prefix_append H [.live 1 [aS k]]) h)
        refine hs u o (fun e => ?_) h2
        rcases h1 with ⟨rfl, _⟩ | ⟨t, ex, ht, rfl, _⟩
        · cases e
        · cases e
          have := aY h
          rw [List.length_append] at ht
          omega
      have hc1 : obj? H' H.length = some (1, [aS k]) := by
        refine hs _ _ (fun e => ?_) hob
        rcases h1 with ⟨rfl, _⟩ | ⟨t, ex, ht, rfl, _⟩
        · cases e
        · cases e
          rw [List.length_append, List.length_singleton] at ht
          omega
      exact VH (hq1 _ _ z1) (hok.kl _ z2) (hok.at_ _ z2) (hok.kr _ z2) hkl hc1
    · simp only [push_cast, ↓reduceIte, Nat.reduceEqDiff, reduceCtorEq, Nat.reduceAdd, Nat.reduceLT, Nat.reduceLeDiff]
      have e : HO (fun q => !eN k q.2) (gY ts ps) = .list 1 ((cX (gY ts ps) k).map gO) false := by
        unfold HO jD cX
        simp
      rw [e] at w1
      exact ⟨H4, w1, (List.prefix_append _ _).trans w2⟩
end Go.Eng
end
section
set_option linter.unusedVariables false
set_option linter.unusedSimpArgs false
namespace Go.Eng
open Go
def MZ (key : Int) (l : List Upd) (since : List Tm) : Gr := OI key.toNat (bV (fG since l)).1
theorem lP (key : Int) (l : List Upd) (since : List Tm) : Gs (iT key l since) (MZ key l since) := qU _ (Bt.none_ key l.length since) [] (CH _ _ _)
theorem HQ {since : List Tm} {l : List Upd} {u : Upd} (h : u ∈ (bV (fG since l)).1) : ∃ v ∈ l, u.f0 = v.f0 := by
  obtain ⟨v, hv, e, _⟩ := (eR (fG since l)).2 u h
  obtain ⟨w, hw, e2⟩ := vK hv
  exact ⟨w, hw, e.trans e2⟩
theorem DC {N : Nat} (key : Int) (l : List Upd) (since : List Tm) (h : ∀ u ∈ l, u.f0.length < N) : Vd N (iT key l since) :=
  lO _ _ ⟨fun x h => absurd h List.not_mem_nil, fun x h => absurd h List.not_mem_nil⟩ fun u hu => by
    obtain ⟨v, hv, e⟩ := HQ hu
    rw [e]; exact h v hv
theorem kE (key : Int) (l : List Upd) (since : List Tm) : (iT key l since).key = key ∧ (iT key l since).weight = l.length ∧ (iT key l since).since = since ∧ (iT key l since).times = (bV (fG since l)).1.map (·.f1) := by
  obtain ⟨h1, h2, h3, h4, _⟩ := mW (bV (fG since l)).1 (Bt.none_ key l.length since)
  exact ⟨h1, h2, h3, h4⟩
theorem nA (key : Int) (l : List Upd) (since : List Tm) : (iT key l since).times.length ≤ l.length := by
  rw [(kE key l since).2.2.2, List.length_map]
  have := (eR (fG since l)).1
  rw [vJ] at this
  exact this
theorem NA {b : Bt} {g : Gr} (G : Gs b g) (hv : Vd 1099511627776 b) (ht : b.times.length < 1099511627776) (hs : b.since.length < 1099511627776) : OH b := by
  obtain ⟨l1, l2, _⟩ := tY G
  exact ⟨hs, by omega, hv.wk, by omega, hv.wr⟩
theorem NB (key : Int) (l : List Upd) (since : List Tm) (hl : l.length < 1099511627776) (hr : ∀ u ∈ l, u.f0.length < 1099511627776) (hs : since.length < 1099511627776) : OH (iT key l since) :=
  NA (lP key l since) (DC key l since hr) (by have := nA key l since; omega) (by rw [(kE key l since).2.2.1]; exact hs)
end Go.Eng
end
section
set_option linter.unusedVariables false
set_option linter.unusedSimpArgs false
set_option maxRecDepth 10000
namespace Go.Eng
open Go Go.Proofs
theorem vO {l : List Nat} (h : l.Nodup) {i j : Nat} (hi : i < l.length) (hj : j < l.length) (e : l[i] = l[j]) : i = j := by
  rcases Nat.lt_trichotomy i j with h1 | h1 | h1
  · exact absurd e (List.pairwise_iff_getElem.1 h i j hi hj h1)
  · exact h1
  · exact absurd e.symm (List.pairwise_iff_getElem.1 h j i hj hi h1)
theorem Cur.put {H0 H : AH} {c i t : Nat} {v : AV} {ts : List Nat} {ps : List Pl} {p : Pl} (C : Cur H0 H c v ts ps) (ht : ts[i]? = some t) : Cur H0 (List.set H t (.live 3 [plC p])) c v ts (ps.set i p) := by
  obtain ⟨a1, a2, a3⟩ := C.ap t (List.mem_of_getElem? ht)
  have hi : i < ps.length := by rw [← C.len]; exact (List.getElem?_eq_some_iff.1 ht).1
  have hob := C.pl i t ps[i] ht (List.getElem?_eq_getElem hi)
  refine ⟨⟨bM C.o.pre a3 _, C.o.lt, ?_, fun j w l h1 h2 => ?_, C.o.ap, C.o.apt, C.o.len⟩, by rw [List.length_set]; exact C.len, fun j u q hj hq => ?_, C.ap, C.nd⟩
  · rw [bF a1]; exact C.o.ob
  · match j with
    | 0 => cases h1; exact (C.o.own 0 _ _ rfl h2).set_other a2
    | n + 1 => cases h1
  · by_cases e : j = i
    · subst e
      rw [ht] at hj
      cases hj
      rw [List.getElem?_set_self hi] at hq
      cases hq
      exact bP (aY hob)
    · rw [List.getElem?_set_ne (fun h => e h.symm)] at hq
      have hne : t ≠ u := fun h => by
        subst h
        obtain ⟨h1, h2⟩ := List.getElem?_eq_some_iff.1 ht
        obtain ⟨h3, h4⟩ := List.getElem?_eq_some_iff.1 hj
        exact e (vO C.nd h3 h1 (h4.trans h2.symm))
      rw [bF hne]
      exact C.pl j u q hj hq
theorem JT {H0 H : AH} {c : Nat} {v : AV} {ts : List Nat} {ps : List Pl} (C : Cur H0 H c v ts ps) (hok : HN ps) : aC Tryz.prog 32 [.ptr c 0 0] H fun r H' => r = aS ((cJ ps).getD []) ∧ H' = H := by
  refine aG c32 (fun n => lL n _) (by simp [F32]) ?_
  unfold F32
  simp only [push_cast, ↓reduceIte, Nat.reduceEqDiff, reduceCtorEq, Nat.reduceAdd, Nat.reduceLT, Nat.reduceLeDiff]
  (refine aC.look (uC C hok) ?_; try simp only [push_cast, ↓reduceIte, Nat.reduceEqDiff, reduceCtorEq, Nat.reduceAdd, Nat.reduceLT, Nat.reduceLeDiff, aB, aA])
  cases hk : cJ ps with
  | none =>
    have e : JR none = .nils := rfl
    simp only [push_cast, ↓reduceIte, Nat.reduceEqDiff, reduceCtorEq, Nat.reduceAdd, Nat.reduceLT, Nat.reduceLeDiff, e]
    (refine aC.look (eD .nils [] _ rfl (by decide)) ?_; try simp only [push_cast, ↓reduceIte, Nat.reduceEqDiff, reduceCtorEq, Nat.reduceAdd, Nat.reduceLT, Nat.reduceLeDiff, aB, aA])
    exact ⟨List.prefix_refl _, rfl⟩
  | some k =>
    have e : JR (some k) = aS k := rfl
    simp only [push_cast, ↓reduceIte, Nat.reduceEqDiff, reduceCtorEq, Nat.reduceAdd, Nat.reduceLT, Nat.reduceLeDiff, e]
    (refine aC.look (eD (aS k) k _ rfl (hok.least hk)) ?_; try simp only [push_cast, ↓reduceIte, Nat.reduceEqDiff, reduceCtorEq, Nat.reduceAdd, Nat.reduceLT, Nat.reduceLeDiff, aB, aA])
    exact ⟨List.prefix_refl _, rfl⟩
theorem Cur.step {H0 H : AH} {c i : Nat} {v : AV} {ts : List Nat} {ps : List Pl} {g : Pl → Pl} (hi : i < ps.length) (hi2 : i < ts.length) (C : Cur H0 H c v ts ((ps.take i).map g ++ ps.drop i)) : obj? H ts[i] = some (3, [plC ps[i]]) ∧ Cur H0 (List.set H ts[i] (.live 3 [plC (g ps[i])])) c v ts ((ps.take (i + 1)).map g ++ ps.drop (i + 1)) := by
  have ht : ts[i]? = some ts[i] := List.getElem?_eq_getElem hi2
  have hl : ((ps.take i).map g).length = i := by rw [List.length_map, List.length_take]; omega
  have hp : ((ps.take i).map g ++ ps.drop i)[i]? = some ps[i] := by
    rw [List.getElem?_append_right (by omega), hl, Nat.sub_self, List.getElem?_drop, Nat.add_zero, List.getElem?_eq_getElem hi]
  refine ⟨C.pl i _ _ ht hp, ?_⟩
  have e : ((ps.take i).map g ++ ps.drop i).set i (g ps[i]) = (ps.take (i + 1)).map g ++ ps.drop (i + 1) := by
    rw [List.drop_eq_getElem_cons hi, List.set_append_right _ _ (by omega), hl, Nat.sub_self, List.set_cons_zero, ← List.take_append_getElem hi, List.map_append, List.append_assoc]
    rfl
  rw [← e]
  exact C.put ht
theorem rI (zs : List ZP) (k : List Val) : (cX zs k).length ≤ zs.length := List.length_filter_le _ _
def jF (p : Pl) : Pl := ⟨p.b, p.at_ + 1⟩
def lQ (S : List Nat) (zs : List ZP) : List Pl := zs.map fun q => if q.1 ∈ S then jF q.2 else q.2
def jW (ps : List Pl) : List Pl := match cJ ps with | none => ps | some k => ps.map fun p => if eN k p = true then jF p else p
theorem HR {ts : List Nat} {ps : List Pl} (h : ts.length = ps.length) : (gY ts ps).map (·.1) = ts := by
  unfold gY
  exact List.map_fst_zip (by omega)
theorem vP {ts : List Nat} {ps : List Pl} (h : ts.length = ps.length) : (gY ts ps).map (·.2) = ps := by
  unfold gY
  exact List.map_snd_zip (by omega)
theorem DD {zs : List ZP} (h : (zs.map (·.1)).Nodup) {q q' : ZP} (hq : q ∈ zs) (hq' : q' ∈ zs) (e : q.1 = q'.1) : q = q' := by
  obtain ⟨i, hi, rfl⟩ := List.mem_iff_getElem.1 hq
  obtain ⟨j, hj, rfl⟩ := List.mem_iff_getElem.1 hq'
  have := vO h (i := i) (j := j) (by simpa using hi) (by simpa using hj) (by simpa using e)
  subst this
  rfl
theorem DE {zs : List ZP} (h : (zs.map (·.1)).Nodup) (k : List Val) : lQ ((cX zs k).map (·.1)) zs = (zs.map (·.2)).map fun p => if eN k p = true then jF p else p := by
  unfold lQ
  rw [List.map_map]
  refine List.map_congr_left fun q hq => ?_
  by_cases ha : eN k q.2 = true
  · have hm : q ∈ cX zs k := List.mem_filter.2 ⟨hq, ha⟩
    rw [if_pos (List.mem_map.2 ⟨q, hm, rfl⟩)]
    simp [ha]
  · rw [if_neg]
    · simp [ha]
    · intro hm
      obtain ⟨q', h1, h2⟩ := List.mem_map.1 hm
      obtain ⟨h3, h4⟩ := List.mem_filter.1 h1
      have := DD h h3 hq h2
      subst this
      exact ha h4
theorem xQ {zs : List ZP} (h : (zs.map (·.1)).Nodup) (k : List Val) {i : Nat} (hi : i < (cX zs k).length) : ∃ j : Nat, ∃ hj : j < zs.length, zs[j] = (cX zs k)[i] ∧ (lQ (((cX zs k).take i).map (·.1)) zs)[j]? = some zs[j].2 ∧ lQ (((cX zs k).take (i + 1)).map (·.1)) zs = (lQ (((cX zs k).take i).map (·.1)) zs).set j (jF zs[j].2) := by
  have hm : (cX zs k)[i] ∈ zs := (List.mem_filter.1 (List.getElem_mem hi)).1
  obtain ⟨j, hj, e⟩ := List.mem_iff_getElem.1 hm
  have hnd : ((cX zs k).map (·.1)).Nodup := List.Pairwise.sublist (List.Sublist.map _ List.filter_sublist) h
  have hno : zs[j].1 ∉ ((cX zs k).take i).map (·.1) := by
    rw [e]
    intro hm2
    rw [List.map_take] at hm2
    obtain ⟨m, hm3, e3⟩ := List.mem_iff_getElem.1 hm2
    rw [List.length_take, List.length_map] at hm3
    rw [List.getElem_take] at e3
    have := vO hnd (i := m) (j := i) (by rw [List.length_map]; omega) (by rw [List.length_map]; exact hi) (by rw [e3, List.getElem_map])
    omega
  refine ⟨j, hj, e, ?_, ?_⟩
  · unfold lQ
    rw [List.getElem?_map, List.getElem?_eq_getElem hj, Option.map_some, if_neg hno]
  · unfold lQ
    refine List.ext_getElem? fun m => ?_
    rw [List.getElem?_set]
    by_cases hmj : j = m
    · subst hmj
      rw [if_pos rfl, if_pos (by rw [List.length_map]; exact hj), List.getElem?_map, List.getElem?_eq_getElem hj, Option.map_some, if_pos]
      rw [e, ← List.take_append_getElem hi, List.map_append]
      exact List.mem_append_right _ (List.mem_singleton.2 rfl)
    · rw [if_neg hmj, List.getElem?_map, List.getElem?_map]
      cases hz : zs[m]? with
      | none => rfl
      | some q =>
        have hq1 : q.1 ≠ (cX zs k)[i].1 := fun e2 => by
          obtain ⟨h3, h4⟩ := List.getElem?_eq_some_iff.1 hz
          have h5 : q = zs[j] := DD h (List.mem_of_getElem? hz) (List.getElem_mem hj) (by rw [e2, e])
          have := vO h (i := m) (j := j) (by rw [List.length_map]; exact h3) (by rw [List.length_map]; exact hj) (by rw [List.getElem_map, List.getElem_map, h4, h5])
          omega
        have : (q.1 ∈ ((cX zs k).take (i + 1)).map (·.1)) ↔ (q.1 ∈ ((cX zs k).take i).map (·.1)) := by
          rw [← List.take_append_getElem hi, List.map_append, List.mem_append]
          simp [hq1]
        rw [Option.map_some, Option.map_some]
        by_cases h6 : q.1 ∈ ((cX zs k).take i).map (·.1)
        · rw [if_pos h6, if_pos (this.2 h6)]
        · rw [if_neg h6, if_neg (fun h7 => h6 (this.1 h7))]
theorem RR {H0 H : AH} {c : Nat} {v : AV} {ts : List Nat} {ps : List Pl} (C : Cur H0 H c v ts ps) (hok : HN ps) : aC Tryz.prog 36 [.ptr c 0 0] H fun r H' => r = .tup [] ∧ Cur H0 H' c v ts (jW ps) := by
  refine aU c36 (by simp [F36]) ?_
  unfold F36
  have hn := hok.n
  have hlen := C.len
  simp only [push_cast, ↓reduceIte, Nat.reduceEqDiff, reduceCtorEq, Nat.reduceAdd, Nat.reduceLT, Nat.reduceLeDiff]
  (refine aC.look (JS C hok) ?_; try simp only [push_cast, ↓reduceIte, Nat.reduceEqDiff, reduceCtorEq, Nat.reduceAdd, Nat.reduceLT, Nat.reduceLeDiff, aB, aA])
  unfold xP jW
  cases hk : cJ ps with
  | none =>
    dsimp only
    have h0 : ¬ (0 : Int) < 0 := by decide
    simp only [push_cast, ↓reduceIte, Nat.reduceEqDiff, reduceCtorEq, Nat.reduceAdd, Nat.reduceLT, Nat.reduceLeDiff]
    refine aI (fun (_ : Unit) f H' => H' = H ∧ f 6 = .int .i64 0 ∧ f 7 = .int .i64 0) (fun _ => 0) () ⟨rfl, rfl, rfl⟩ ?_
    rintro _ f H' ⟨rfl, e6, e7⟩
    simp only [push_cast, ↓reduceIte, Nat.reduceEqDiff, reduceCtorEq, Nat.reduceAdd, Nat.reduceLT, Nat.reduceLeDiff, e6, e7, h0, decide_false]
    exact C
  | some k =>
    dsimp only
    have hzl := HR hlen
    have hzs := vP hlen
    have hnd : ((gY ts ps).map (·.1)).Nodup := by rw [hzl]; exact C.nd
    have hhl : (cX (gY ts ps) k).length ≤ ps.length := by
      have := rI (gY ts ps) k
      have h2 := congrArg List.length hzs
      rw [List.length_map] at h2
      omega
    have hend := DE hnd k
    rw [hzs] at hend
    rw [← hend]
    have hat : ∀ q ∈ gY ts ps, q.2.at_ < 1099511627776 := fun q hq => by
      obtain ⟨_, h2, _⟩ := pF C hq
      have := hok.at_ _ h2
      have := hok.kl _ h2
      omega
    have hC0 : Cur H0 H c v ts (lQ (((cX (gY ts ps) k).take 0).map (·.1)) (gY ts ps)) := by
      have : lQ (((cX (gY ts ps) k).take 0).map (·.1)) (gY ts ps) = ps := by
        unfold lQ
        simp only [List.take_zero, List.map_nil, List.not_mem_nil, if_false]
        exact hzs
      rw [this]
      exact C
    have hstep := fun {i : Nat} (hi : i < (cX (gY ts ps) k).length) => xQ hnd k hi
    have hzt : ∀ j (hj : j < (gY ts ps).length), ts[j]? = some (gY ts ps)[j].1 := fun j hj => by
      have h : ((gY ts ps).map (·.1))[j]? = ts[j]? := congrArg (fun l : List Nat => l[j]?) hzl
      rw [← h, List.getElem?_map, List.getElem?_eq_getElem hj]
      rfl
    generalize gY ts ps = zs at *
    generalize cX zs k = hz at *
    simp only [push_cast, ↓reduceIte, Nat.reduceEqDiff, reduceCtorEq, Nat.reduceAdd, Nat.reduceLT, Nat.reduceLeDiff]
    refine aI (fun (i : Nat) f H' => Cur H0 H' c v ts (lQ ((hz.take i).map (·.1)) zs) ∧ i ≤ hz.length ∧ f 5 = .list 1 (hz.map gO) false ∧ f 6 = .int .i64 hz.length ∧ f 7 = .int .i64 i) (fun i => hz.length - i) 0 ⟨hC0, Nat.zero_le _, rfl, by rw [List.length_map]; rfl, rfl⟩ ?_
    clear C hC0
    rintro i f H' ⟨C, h1, e5, e6, e7⟩
    by_cases hi : i < hz.length
    · have hi' : (i : Int) < hz.length := by omega
      have w1 : IntKind.i64.wrap ((i : Int) + 1) = ((i + 1 : Nat) : Int) := by rw [aE (by omega) (by omega)]; omega
      obtain ⟨j, hj, ej, hp, hb⟩ := hstep hi
      have hat1 := hat _ (List.getElem_mem hj)
      have w2 : IntKind.i64.wrap ((zs[j].2.at_ : Int) + 1) = ((zs[j].2.at_ + 1 : Nat) : Int) := by rw [aE (by omega) (by omega)]; omega
      have ht := hzt j hj
      have ho := C.pl j _ _ ht hp
      have C2 := C.put (p := jF zs[j].2) ht
      rw [← hb] at C2
      have ax : aF 1 (.list 1 (hz.map gO) false) (.int .i64 (i : Int)) = some (.lptr 1 (hz.map gO) i 0) := cM (by rw [List.length_map]; exact hi) _
      have lx : (hz.map gO)[i]? = some (gO zs[j]) := by rw [ej]; simp [hi]
      have p0 : part false 1 0 (gO zs[j]) = some (.ptr zs[j].1 0 0) := rfl
      generalize zs[j] = q at *
      have pp : kK (plC q.2) 2 [.int .i64 ((q.2.at_ + 1 : Nat) : Int)] = plC (jF q.2) := rfl
      have cp : (cells (plC q.2)).length = 3 := rfl
      simp only [push_cast, ↓reduceIte, Nat.reduceEqDiff, reduceCtorEq, Nat.reduceAdd, Nat.reduceLT, Nat.reduceLeDiff, aB, aA, e5, e6, e7, hi', ax, lx, p0, ho, iU, w2, pp, cp]
      exact ⟨i + 1, ⟨C2, hi, by rw [w1]⟩, by omega⟩
    · have hi' : ¬ (i : Int) < hz.length := by omega
      simp only [push_cast, ↓reduceIte, Nat.reduceEqDiff, reduceCtorEq, Nat.reduceAdd, Nat.reduceLT, Nat.reduceLeDiff, e5, e6, e7, hi']
      rw [List.take_of_length_le (by omega)] at C
      exact C
structure WB (ps : List Pl) (gf : Bt → Gr) : Prop where
  gs : ∀ p ∈ ps, Gs p.b (gf p.b)
  vd : ∀ p ∈ ps, Vd 549755813888 p.b
  tm : ∀ p ∈ ps, p.b.times.length < 1099511627776
def fE (gf : Bt → Gr) (p : Pl) : List Upd := match (gf p.b)[p.at_]? with | none => [] | some x => mI x
def eG (gf : Bt → Gr) (ps : List Pl) : List Upd := match cJ ps with | none => [] | some k => (ps.filter (eN k)).flatMap (fE gf)
theorem DF {zs : List ZP} (k : List Val) : (cX zs k).map (·.2) = (zs.map (·.2)).filter (eN k) := by
  unfold cX
  rw [List.filter_map]
  rfl
theorem RS {H0 H : AH} {c : Nat} {v : AV} {ts : List Nat} {ps : List Pl} {gf : Bt → Gr} (C : Cur H0 H c v ts ps) (hok : HN ps) (G : WB ps gf) (hl : (eG gf ps).length < 1099511627776) : aC Tryz.prog 34 [.ptr c 0 0] H fun r H' => r = aZ (eG gf ps) ∧ H' = H := by
  refine aW c34 (v := aZ (eG gf ps)) (fun n => mG (oR n) _) (by simp [F34]) ?_
  unfold F34
  have hn := hok.n
  have hlen := C.len
  simp only [push_cast, ↓reduceIte, Nat.reduceEqDiff, reduceCtorEq, Nat.reduceAdd, Nat.reduceLT, Nat.reduceLeDiff]
  (refine aC.look (JS C hok) ?_; try simp only [push_cast, ↓reduceIte, Nat.reduceEqDiff, reduceCtorEq, Nat.reduceAdd, Nat.reduceLT, Nat.reduceLeDiff, aB, aA])
  unfold xP
  unfold eG at hl ⊢
  cases hk : cJ ps with
  | none =>
    dsimp only
    have h0 : ¬ (0 : Int) < 0 := by decide
    simp only [push_cast, ↓reduceIte, Nat.reduceEqDiff, reduceCtorEq, Nat.reduceAdd, Nat.reduceLT, Nat.reduceLeDiff]
    refine aI (fun (_ : Unit) f H' => H' = H ∧ f 3 = .nils ∧ f 8 = .int .i64 0 ∧ f 9 = .int .i64 0) (fun _ => 0) () ⟨rfl, rfl, rfl, rfl⟩ ?_
    rintro _ f H' ⟨rfl, e3, e8, e9⟩
    simp only [push_cast, ↓reduceIte, Nat.reduceEqDiff, reduceCtorEq, Nat.reduceAdd, Nat.reduceLT, Nat.reduceLeDiff, e3, e8, e9, h0, decide_false]
    exact ⟨_, bZ.nils _ 4, List.prefix_refl _⟩
  | some k =>
    rw [hk] at hl
    dsimp only at hl ⊢
    have hzs := vP hlen
    have hhl : (cX (gY ts ps) k).length ≤ ps.length := by
      have := rI (gY ts ps) k
      have h2 := congrArg List.length hzs
      rw [List.length_map] at h2
      omega
    have hsnd := DF (zs := gY ts ps) k
    rw [hzs] at hsnd
    rw [← hsnd, List.flatMap_map] at hl ⊢
    have hm : ∀ q ∈ cX (gY ts ps) k, obj? H q.1 = some (3, [plC q.2]) ∧ q.2 ∈ ps ∧ eN k q.2 = true := fun q hq => by
      obtain ⟨h1, h2⟩ := List.mem_filter.1 hq
      obtain ⟨z1, z2, _⟩ := pF C h1
      exact ⟨z1, z2, h2⟩
    generalize cX (gY ts ps) k = hz at *
    simp only [push_cast, ↓reduceIte, Nat.reduceEqDiff, reduceCtorEq, Nat.reduceAdd, Nat.reduceLT, Nat.reduceLeDiff]
    refine aI (fun (i : Nat) f H' => H <+: H' ∧ i ≤ hz.length ∧ Own H H' 4 (f 3) (((hz.take i).flatMap fun q => fE gf q.2).map upA) ∧ f 7 = .list 1 (hz.map gO) false ∧ f 8 = .int .i64 hz.length ∧ f 9 = .int .i64 i) (fun i => hz.length - i) 0 ⟨List.prefix_refl _, Nat.zero_le _, .inl ⟨rfl, rfl⟩, rfl, by rw [List.length_map]; rfl, rfl⟩ ?_
    rintro i f H' ⟨hp, h1, ho, e7, e8, e9⟩
    generalize hv : f 3 = w at ho
    by_cases hi : i < hz.length
    · have hi' : (i : Int) < hz.length := by omega
      have w1 : IntKind.i64.wrap ((i : Int) + 1) = ((i + 1 : Nat) : Int) := by rw [aE (by omega) (by omega)]; omega
      obtain ⟨m1, m2, m3⟩ := hm _ (List.getElem_mem hi)
      have ax : aF 1 (.list 1 (hz.map gO) false) (.int .i64 (i : Int)) = some (.lptr 1 (hz.map gO) i 0) := cM (by rw [List.length_map]; exact hi) _
      have lx : (hz.map gO)[i]? = some (gO hz[i]) := by simp [hi]
      have ht : (hz.take (i + 1)).flatMap (fun q => fE gf q.2) = (hz.take i).flatMap (fun q => fE gf q.2) ++ fE gf hz[i].2 := by rw [← List.take_append_getElem hi, List.flatMap_append]; simp
      have hlb : ((hz.take i).flatMap fun q => fE gf q.2).length + (fE gf hz[i].2).length < 1099511627776 := by
        rw [← List.length_append, ← ht]
        refine Nat.lt_of_le_of_lt ?_ hl
        have e := List.take_append_drop (i + 1) hz
        have : ((hz.take (i + 1) ++ hz.drop (i + 1)).flatMap fun q => fE gf q.2).length = (hz.flatMap fun q => fE gf q.2).length := congrArg (fun l : List ZP => (l.flatMap fun q => fE gf q.2).length) e
        rw [List.flatMap_append, List.length_append] at this
        omega
      have p0 : part false 1 0 (gO hz[i]) = some (.ptr hz[i].1 0 0) := rfl
      generalize hz[i] = q at *
      have hg := G.gs _ m2
      have hat : q.2.at_ < (gf q.2.b).length := by
        have hkl : q.2.b.keys.length = (gf q.2.b).length := by rw [hg.keys, List.length_map]
        unfold eN Pl.key at m3
        cases hx : q.2.b.keys[q.2.at_]? with
        | none => rw [hx] at m3; cases m3
        | some x => rw [← hkl]; exact (List.getElem?_eq_some_iff.1 hx).1
      have hra : fE gf q.2 = mI (gf q.2.b)[q.2.at_] := by unfold fE; rw [List.getElem?_eq_getElem hat]
      have m1' := bB hp m1
      simp only [push_cast, ↓reduceIte, Nat.reduceEqDiff, reduceCtorEq, Nat.reduceAdd, Nat.reduceLT, Nat.reduceLeDiff, aB, aA, e7, e8, e9, hv, hi', ax, lx, p0, m1', iU]
      (refine aC.look (VE hg (G.vd _ m2) (G.tm _ m2) q.2.at_ hat _) ?_; simp only [push_cast, ↓reduceIte, Nat.reduceEqDiff, reduceCtorEq, Nat.reduceAdd, Nat.reduceLT, Nat.reduceLeDiff, aB, aA, e7, e8, e9, hv])
      refine ho.xapp hp (xs := (fE gf q.2).map upA) (by rw [hra]; rfl) (by simp only [List.length_map]; omega) fun v' H4 ho' hp' => ?_
      simp only [push_cast, ↓reduceIte, Nat.reduceEqDiff, reduceCtorEq, Nat.reduceAdd, Nat.reduceLT, Nat.reduceLeDiff, e7, e8, e9]
      refine ⟨i + 1, ⟨hp', hi, ?_, by rw [w1]⟩, by omega⟩
      rw [ht, List.map_append]
      exact ho'
    · have hi' : ¬ (i : Int) < hz.length := by omega
      simp only [push_cast, ↓reduceIte, Nat.reduceEqDiff, reduceCtorEq, Nat.reduceAdd, Nat.reduceLT, Nat.reduceLeDiff, e7, e8, e9, hi', hv]
      rw [List.take_of_length_le (by omega)] at ho
      obtain ⟨H3, w1, w2⟩ := ho.weak hp
      exact ⟨H3, w1, w2⟩
end Go.Eng
end
section
set_option linter.unusedVariables false
set_option linter.unusedSimpArgs false
namespace Go.Eng
open Go
def lR : List Upd → List Upd → Bool
  | [], [] => true
  | x :: a, y :: b => decide (bL x y = 0) && (decide (x.f2 = y.f2) && lR a b)
  | _, _ => false
theorem lS : ∀ (a b c d : List Upd), lR a b = true → lR c d = true → lR (a ++ c) (b ++ d) = true
  | [], [], c, d, _, h => h
  | [], _ :: _, _, _, h, _ => by simp [lR] at h
  | _ :: _, [], _, _, h, _ => by simp [lR] at h
  | x :: a, y :: b, c, d, h, h2 => by
    simp only [lR, Bool.and_eq_true] at h
    simp [lR, h.1, h.2.1, lS a b c d h.2.2 h2]
theorem pG : ∀ (a c b d : Row), bG a c = 0 → bG (a ++ b) (c ++ d) = bG b d
  | [], [], b, d, _ => rfl
  | [], _ :: _, _, _, h => by simp [bG] at h
  | _ :: _, [], _, _, h => by simp [bG] at h
  | x :: a, y :: c, b, d, h => by
    have h0 : gZ x y = 0 := by
      unfold bG at h
      by_cases e : gZ x y = 0
      · exact e
      · rw [if_neg e] at h; exact h
    have h1 : bG a c = 0 := by
      unfold bG at h
      rw [if_pos h0] at h
      exact h
    show (if gZ x y = 0 then bG (a ++ b) (c ++ d) else gZ x y) = bG b d
    rw [if_pos h0, pG a c b d h1]
def NeG (g : Gr) : Prop := ∀ x ∈ g, x.2 ≠ []
theorem nB (n : Nat) (g : Gr) (u : Upd) (hg : NeG g) :
    (qR n g u = g ++ [(u.f0.take n, [(u.f0.drop n, [(u.f1, u.f2)])])] ∧ (∀ x, g.getLast? = some x → cE x.1 (u.f0.take n) = false)) ∨
    (∃ g' k0 rs y, g = g' ++ [(k0, rs ++ [y])] ∧ cE k0 (u.f0.take n) = true ∧
      ((cE y.1 (u.f0.drop n) = false ∧ qR n g u = g' ++ [(k0, rs ++ [y] ++ [(u.f0.drop n, [(u.f1, u.f2)])])]) ∨ (cE y.1 (u.f0.drop n) = true ∧ qR n g u = g' ++ [(k0, rs ++ [(y.1, y.2 ++ [(u.f1, u.f2)])])]))) := by
  by_cases h0 : g = []
  · subst h0
    exact .inl ⟨rfl, fun x hx => by simp at hx⟩
  · obtain ⟨g', ⟨k0, rs⟩, rfl⟩ := fV g h0
    cases e1 : cE k0 (u.f0.take n) with
    | false =>
      refine .inl ⟨vH n g' (k0, rs) u e1, fun x hx => ?_⟩
      simp at hx
      subst hx
      exact e1
    | true =>
      obtain ⟨rs', y, rfl⟩ := fV rs (hg (k0, rs) (by simp))
      refine .inr ⟨g', k0, rs', y, rfl, e1, ?_⟩
      cases e2 : cE y.1 (u.f0.drop n) with
      | false => exact .inl ⟨rfl, qS n g' k0 rs' y u e1 e2⟩
      | true => exact .inr ⟨rfl, qT n g' k0 rs' y u e1 e2⟩
theorem NC (n : Nat) (g : Gr) (u : Upd) (hg : NeG g) : NeG (qR n g u) := by
  rcases nB n g u hg with ⟨e, _⟩ | ⟨g', k0, rs, y, rfl, _, ⟨_, e⟩ | ⟨_, e⟩⟩
  · rw [e]
    intro x hx
    rcases List.mem_append.1 hx with hx | hx
    · exact hg x hx
    · rw [List.mem_singleton.1 hx]; simp
  · rw [e]
    intro x hx
    rcases List.mem_append.1 hx with hx | hx
    · exact hg x (List.mem_append_left _ hx)
    · rw [List.mem_singleton.1 hx]; simp
  · rw [e]
    intro x hx
    rcases List.mem_append.1 hx with hx | hx
    · exact hg x (List.mem_append_left _ hx)
    · rw [List.mem_singleton.1 hx]; simp
theorem lT (v u : Upd) (h : bG v.f0 u.f0 = 0) (h1 : v.f1 = u.f1) (h2 : v.f2 = u.f2) : lR [v] [u] = true := by
  have e : bL v u = 0 := by unfold bL; rw [if_pos h, h1, lI]
  simp [lR, e, h2]
def DG (out : List Row) (r : Row) : Bool := match out.getLast? with | none => false | some x => cE x r
def lU (out : List Row) (r : Row) : List Row := if DG out r = true then out else out ++ [r]
def pH (n : Nat) (l : List Upd) : List Row := l.foldl (fun out u => lU out (u.f0.take n)) []
def rJ (n : Nat) (l : List Upd) : List Row := l.foldl (fun out u => lU out (u.f0.drop n)) []
def ND (n : Nat) (l : List Upd) (k : Row) : List Upd := l.filter fun u => cE (u.f0.take n) k
theorem jG (n : Nat) (l : List Upd) (u : Upd) : pH n (l ++ [u]) = lU (pH n l) (u.f0.take n) := by simp [pH]
theorem uF (n : Nat) (l : List Upd) (u : Upd) : rJ n (l ++ [u]) = lU (rJ n l) (u.f0.drop n) := by simp [rJ]
theorem iV (n : Nat) (l : List Upd) (u : Upd) (k : Row) : ND n (l ++ [u]) k = ND n l k ++ (if cE (u.f0.take n) k = true then [u] else []) := by
  unfold ND
  rw [List.filter_append, List.filter_cons]
  rfl
theorem jH (out : List Row) (x r : Row) : lU (out ++ [x]) r = if cE x r = true then out ++ [x] else out ++ [x] ++ [r] := by
  unfold lU DG
  simp
theorem HS (out : List Row) (r : Row) : lU out r ≠ [] := by
  unfold lU DG
  cases h : out.getLast? with
  | none => simp
  | some x =>
    have h2 : out ≠ [] := fun e => by rw [e] at h; simp at h
    dsimp only
    split
    · exact h2
    · simp
theorem pI (a b : Row) : cE a b = cE b a := by
  rw [Bool.eq_iff_iff, cW, cW]
  have := cV a b
  omega
theorem rK : ∀ (n : Nat) (a b : Row), n ≤ a.length → n ≤ b.length → bG a b ≤ 0 → bG (a.take n) (b.take n) ≤ 0
  | 0, a, b, _, _, _ => by simp [bG]
  | n + 1, [], b, h, _, _ => by simp at h
  | n + 1, _ :: _, [], _, h, _ => by simp at h
  | n + 1, x :: a, y :: b, h1, h2, h => by
    simp only [List.take_succ_cons]
    unfold bG at h ⊢
    by_cases e : gZ x y = 0
    · rw [if_pos e] at h ⊢
      exact rK n a b (by simpa using h1) (by simpa using h2) h
    · rw [if_neg e] at h ⊢
      exact h
structure GI (n : Nat) (l : List Upd) (g : Gr) : Prop where
  ne : NeG g
  keys : g.map (·.1) = pH n l
  lt : g.Pairwise fun a b => bG a.1 b.1 < 0
  up : ∀ x, g.getLast? = some x → ∀ u ∈ l, bG (u.f0.take n) x.1 ≤ 0
  mem : ∀ x ∈ g, ∃ v ∈ l, v.f0.take n = x.1
  run : ∀ x ∈ g, lR (mI x) (ND n l x.1) = true ∧ rJ n (ND n l x.1) = x.2.map (·.1)
theorem GI.none_ (n : Nat) : GI n [] [] := ⟨fun x h => by simp at h, rfl, List.Pairwise.nil, fun x h => by simp at h, fun x h => by simp at h, fun x h => by simp at h⟩
theorem GI.add {n : Nat} {l : List Upd} {g : Gr} (h : GI n l g) (u : Upd) (hle : ∀ v ∈ l, bG (v.f0.take n) (u.f0.take n) ≤ 0) : GI n (l ++ [u]) (qR n g u) := by
  have hne := NC n g u h.ne
  rcases nB n g u h.ne with ⟨e, hnew⟩ | ⟨g', k0, rs, y, rfl, h0, h1⟩
  · -- a new key
    have hlast : ∀ x, g.getLast? = some x → bG x.1 (u.f0.take n) < 0 := fun x hx => by
      have hxg : x ∈ g := List.mem_of_getLast? hx
      obtain ⟨v, hv, ev⟩ := h.mem x hxg
      have h2 := hle v hv
      rw [ev] at h2
      have h3 := hnew x hx
      have h4 : ¬ bG x.1 (u.f0.take n) = 0 := fun e => by rw [(cW _ _).2 e] at h3; cases h3
      omega
    have hall : ∀ x ∈ g, bG x.1 (u.f0.take n) < 0 := fun x hx => by
      have hg0 : g ≠ [] := fun e => by rw [e] at hx; simp at hx
      obtain ⟨g', z, rfl⟩ := fV g hg0
      have hz := hlast z (by simp)
      rcases List.mem_append.1 hx with hx | hx
      · have h5 := (List.pairwise_append.1 h.lt).2.2 x hx z (by simp)
        exact fB h5 (by omega)
      · rw [List.mem_singleton.1 hx]; exact hz
    have hkeys : pH n (l ++ [u]) = pH n l ++ [u.f0.take n] := by
      rw [jG, ← h.keys]
      unfold lU DG
      rw [List.getLast?_map]
      cases hgl : g.getLast? with
      | none => simp
      | some x => simp [hnew x hgl]
    have hold : ∀ v ∈ l, bG (v.f0.take n) (u.f0.take n) < 0 := fun v hv => by
      cases hgl : g.getLast? with
      | none =>
        have hg0 : g = [] := by simpa using hgl
        have h6 := h.keys
        rw [hg0] at h6
        exfalso
        have h7 : pH n l ≠ [] := by
          have hl0 : l ≠ [] := fun e => by rw [e] at hv; simp at hv
          obtain ⟨l', z, rfl⟩ := fV l hl0
          rw [jG]
          exact HS _ _
        exact h7 h6.symm
      | some x => exact dP (h.up x hgl v hv) (hlast x hgl)
    rw [e] at hne ⊢
    refine ⟨hne, by rw [hkeys, ← h.keys]; simp, ?_, ?_, ?_, ?_⟩
    · rw [List.pairwise_append]
      refine ⟨h.lt, List.pairwise_singleton _ _, fun x hx z hz => ?_⟩
      rw [List.mem_singleton.1 hz]
      exact hall x hx
    · intro x hx v hv
      simp at hx
      subst hx
      rcases List.mem_append.1 hv with hv | hv
      · exact hle v hv
      · rw [List.mem_singleton.1 hv, eQ]; exact Int.le_refl _
    · intro x hx
      rcases List.mem_append.1 hx with hx | hx
      · obtain ⟨v, hv, ev⟩ := h.mem x hx
        exact ⟨v, List.mem_append_left _ hv, ev⟩
      · rw [List.mem_singleton.1 hx]; exact ⟨u, by simp, rfl⟩
    · intro x hx
      rcases List.mem_append.1 hx with hx | hx
      · have h5 := hall x hx
        have h6 : cE (u.f0.take n) x.1 = false := by
          rw [pI]
          cases hs : cE x.1 (u.f0.take n) with
          | false => rfl
          | true => have := (cW _ _).1 hs; omega
        rw [iV, h6]
        simpa using h.run x hx
      · rw [List.mem_singleton.1 hx]
        have h6 : ND n l (u.f0.take n) = [] := by
          unfold ND
          rw [List.filter_eq_nil_iff]
          intro v hv hs
          have := hold v hv
          have := (cW _ _).1 hs
          omega
        rw [iV, h6, (cW _ _).2 (eQ _), if_pos rfl, List.nil_append]
        refine ⟨?_, by simp [rJ, lU, DG]⟩
        simp only [mI, mX, List.flatMap_cons, List.flatMap_nil, List.map_cons, List.map_nil, List.append_nil]
        exact lT _ _ (by rw [List.take_append_drop]; exact eQ _) rfl rfl
  · -- the last key again
    have h00 := (cW _ _).1 h0
    have hlast := h.up (k0, rs ++ [y]) (by simp)
    have hk : cE (u.f0.take n) k0 = true := by rw [pI]; exact h0
    have hother : ∀ x ∈ g', cE (u.f0.take n) x.1 = false := fun x hx => by
      have h5 : bG x.1 k0 < 0 := (List.pairwise_append.1 h.lt).2.2 x hx (k0, rs ++ [y]) (by simp)
      have h6 : bG x.1 (u.f0.take n) < 0 := fB h5 (by omega)
      rw [pI]
      cases hs : cE x.1 (u.f0.take n) with
      | false => rfl
      | true => have := (cW _ _).1 hs; omega
    have hkeys : pH n (l ++ [u]) = pH n l := by
      rw [jG, ← h.keys, List.map_append]
      rw [show List.map (fun x : List Val × List Rst => x.1) [(k0, rs ++ [y])] = [k0] from rfl, jH, if_pos h0]
    obtain ⟨hr1, hr2⟩ := h.run (k0, rs ++ [y]) (by simp)
    have hcom : ∀ rs', (mI (k0, rs') = mI (k0, rs ++ [y]) ++ [⟨k0 ++ u.f0.drop n, u.f1, u.f2⟩] ∨ (cE y.1 (u.f0.drop n) = true ∧ mI (k0, rs') = mI (k0, rs ++ [y]) ++ [⟨k0 ++ y.1, u.f1, u.f2⟩])) → rs' ≠ [] → lU ((rs ++ [y]).map (·.1)) (u.f0.drop n) = rs'.map (·.1) → qR n (g' ++ [(k0, rs ++ [y])]) u = g' ++ [(k0, rs')] → GI n (l ++ [u]) (g' ++ [(k0, rs')]) := by
      intro rs' hrun hrne hrst hadd
      refine ⟨by rw [← hadd]; exact hne, ?_, ?_, ?_, ?_, ?_⟩
      · rw [hkeys, ← h.keys]; simp
      · have h5 := List.pairwise_append.1 h.lt
        rw [List.pairwise_append]
        refine ⟨h5.1, List.pairwise_singleton _ _, fun x hx z hz => ?_⟩
        rw [List.mem_singleton.1 hz]
        exact h5.2.2 x hx (k0, rs ++ [y]) (by simp)
      · intro x hx v hv
        simp at hx
        subst hx
        rcases List.mem_append.1 hv with hv | hv
        · exact hlast v hv
        · rw [List.mem_singleton.1 hv]
          have := cV k0 (u.f0.take n)
          show bG (u.f0.take n) k0 ≤ 0
          omega
      · intro x hx
        rcases List.mem_append.1 hx with hx | hx
        · obtain ⟨v, hv, ev⟩ := h.mem x (List.mem_append_left _ hx)
          exact ⟨v, List.mem_append_left _ hv, ev⟩
        · rw [List.mem_singleton.1 hx]
          obtain ⟨v, hv, ev⟩ := h.mem (k0, rs ++ [y]) (by simp)
          exact ⟨v, List.mem_append_left _ hv, ev⟩
      · intro x hx
        rcases List.mem_append.1 hx with hx | hx
        · rw [iV, hother x hx]
          simpa using h.run x (List.mem_append_left _ hx)
        · rw [List.mem_singleton.1 hx]
          dsimp only
          rw [iV, hk, if_pos rfl, uF, hr2, hrst]
          refine ⟨?_, rfl⟩
          have e2 : u.f0 = u.f0.take n ++ u.f0.drop n := (List.take_append_drop n u.f0).symm
          rcases hrun with hrun | ⟨hys, hrun⟩
          · rw [hrun]
            refine lS _ _ _ _ hr1 (lT _ _ ?_ rfl rfl)
            show bG (k0 ++ u.f0.drop n) u.f0 = 0
            rw [show bG (k0 ++ u.f0.drop n) u.f0 = bG (k0 ++ u.f0.drop n) (u.f0.take n ++ u.f0.drop n) by rw [← e2], pG _ _ _ _ h00]
            exact eQ _
          · rw [hrun]
            refine lS _ _ _ _ hr1 (lT _ _ ?_ rfl rfl)
            show bG (k0 ++ y.1) u.f0 = 0
            rw [show bG (k0 ++ y.1) u.f0 = bG (k0 ++ y.1) (u.f0.take n ++ u.f0.drop n) by rw [← e2], pG _ _ _ _ h00]
            exact (cW _ _).1 hys
    have hmp : (rs ++ [y]).map (·.1) = rs.map (·.1) ++ [y.1] := by simp
    rcases h1 with ⟨hy, e⟩ | ⟨hy, e⟩
    · rw [e]
      refine hcom _ (.inl ?_) (by simp) ?_ e
      · simp [mI, mX]
      · rw [hmp, jH, if_neg (by rw [hy]; decide)]; simp
    · rw [e]
      refine hcom _ (.inr ⟨hy, ?_⟩) (by simp) ?_ e
      · simp [mI, mX]
      · rw [hmp, jH, if_pos hy]; simp
theorem NE (n : Nat) (l : List Upd) (hs : l.Pairwise fun x y => bG x.f0 y.f0 ≤ 0) (hn : ∀ u ∈ l, n ≤ u.f0.length) : GI n l (OI n l) := by
  have key : ∀ (m : Nat), m ≤ l.length → GI n (l.take m) (OI n (l.take m)) := by
    intro m
    induction m with
    | zero => intro _; exact GI.none_ n
    | succ m ih =>
      intro hm
      have hlt : m < l.length := by omega
      have e2 : l.take (m + 1) = l.take m ++ [l[m]] := by rw [List.take_add_one, List.getElem?_eq_getElem hlt]; rfl
      rw [e2, CI]
      refine (ih (by omega)).add l[m] (fun v hv => rK n _ _ (hn v (List.mem_of_mem_take hv)) (hn _ (List.getElem_mem hlt)) ?_)
      obtain ⟨j, hj, rfl⟩ := List.mem_iff_getElem.1 hv
      rw [List.length_take] at hj
      rw [List.getElem_take]
      exact List.pairwise_iff_getElem.1 hs j m (by omega) hlt (by omega)
  have := key l.length (Nat.le_refl _)
  rwa [List.take_length] at this
theorem DH : ∀ (n : Nat) (z : List Upd) (k : Nat), z.length ≤ n → z.length ≤ k → (fC k z).flatten = z := by
  intro n
  induction n with
  | zero =>
    intro z k h _
    obtain rfl := List.eq_nil_of_length_eq_zero (show z.length = 0 by omega)
    cases k <;> rfl
  | succ n ih =>
    intro z k h hk
    cases z with
    | nil => cases k <;> rfl
    | cons x r =>
      rw [List.length_cons] at h hk
      obtain ⟨k, rfl⟩ : ∃ m, k = m + 1 := ⟨k - 1, by omega⟩
      have hg : 1 ≤ dQ (x :: r) := by simp [dQ]
      have h1 : ((x :: r).drop (dQ (x :: r))).length ≤ r.length := by rw [List.length_drop, List.length_cons]; omega
      show ((x :: r).take (dQ (x :: r)) :: fC k ((x :: r).drop (dQ (x :: r)))).flatten = _
      rw [List.flatten_cons, ih _ k (by omega) (by omega), List.take_append_drop]
theorem uG {x x' y : Upd} (h0 : x.f0 = x'.f0) (h1 : x.f1 = x'.f1) : bL x y = bL x' y := by unfold bL; rw [h0, h1]
theorem rL {x y y' : Upd} (h0 : y.f0 = y'.f0) (h1 : y.f1 = y'.f1) : bL x y = bL x y' := by unfold bL; rw [h0, h1]
theorem DI : ∀ (ls : List (List Upd)) (out o : List Upd), dR out ls = some o → (∀ l ∈ ls, l ≠ []) → Stab.Srt bL out → Stab.Srt bL ls.flatten → (∀ x ∈ out, ∀ y ∈ ls.flatten, bL x y ≤ 0) → Stab.Srt bL o := by
  intro ls
  induction ls with
  | nil => intro out o h _ hs _ _; cases h; exact hs
  | cons l r ih =>
    intro out o h hne hs hf hx
    simp only [dR] at h
    cases ho : iR l with
    | none => rw [ho] at h; cases h
    | some x =>
      rw [ho] at h
      rw [List.flatten_cons] at hf hx
      have hf2 := Stab.srt_app.1 hf
      have hhead : ∀ u ∈ x, ∃ v ∈ l, u.f0 = v.f0 ∧ u.f1 = v.f1 := fun u hu => (jC (hne l List.mem_cons_self) ho).2 u hu
      have hxs : Stab.Srt bL x := by
        have := (jC (hne l List.mem_cons_self) ho).1
        cases x with
        | nil => exact Stab.srt_nil
        | cons a t =>
          obtain rfl : t = [] := List.eq_nil_of_length_eq_zero (by simpa using this)
          exact Stab.srt_one a
      refine ih (out ++ x) o h (fun q hq => hne q (List.mem_cons_of_mem _ hq)) ?_ hf2.2.1 ?_
      · rw [Stab.srt_app]
        refine ⟨hs, hxs, fun a ha b hb => ?_⟩
        obtain ⟨v, hv, e0, e1⟩ := hhead b hb
        rw [rL e0 e1]
        exact hx a ha v (List.mem_append_left _ hv)
      · intro a ha b hb
        rcases List.mem_append.1 ha with ha | ha
        · exact hx a ha b (List.mem_append_right _ hb)
        · obtain ⟨v, hv, e0, e1⟩ := hhead a ha
          rw [uG e0 e1]
          exact hf2.2.2 v hv b hb
theorem DJ (l : List Upd) : (bV l).1.Pairwise fun x y => bG x.f0 y.f0 ≤ 0 := by
  have key : Stab.Srt bL (bV l).1 := by
    unfold bV
    cases h : dR [] (fC l.length (Stab.sortS bL l)) with
    | none => exact Stab.srt_nil
    | some z =>
      have hfl := DH (Stab.sortS bL l).length (Stab.sortS bL l) l.length (Nat.le_refl _) (by rw [Stab.sortS_len iP]; exact Nat.le_refl _)
      exact DI _ [] z h (fun q hq => ((tZ _ _).1 q hq).1) Stab.srt_nil (by rw [hfl]; exact Stab.sortS_srt iP _) (fun x hx => by simp at hx)
  refine List.Pairwise.imp ?_ key
  intro x y h
  unfold bL at h
  by_cases e : bG x.f0 y.f0 = 0
  · omega
  · rw [if_neg e] at h; exact h
end Go.Eng
end
section
set_option linter.unusedVariables false
set_option linter.unusedSimpArgs false
set_option maxRecDepth 10000
namespace Go.Eng
open Go Go.Proofs
def F69 : AFn := ⟨77, 2, [.t 4], (.seq (.ops [oo 2 (.box 3 (.t 0)), oo 3 (.box 3 (.t 1)), oo 4 (.mov (.v (.int .i64 0)))]) (.seq (.seq (.ops [oo 5 (.faddr 0 (.t 2)), oo 6 (.load false 1 (.t 5)), oo 7 (.faddr 0 (.t 3)), oo 8 (.load false 1 (.t 7)), oo 9 (.bin .lss (.t 6) (.t 8)), oo 10 (.mov (.t 9)), og 11 10 false (.faddr 0 (.t 2)), og 12 10 false (.load false 1 (.t 11)), og 13 10 false (.faddr 0 (.t 3)), og 14 10 false (.load false 1 (.t 13)), og 15 10 false (.bin .eql (.t 12) (.t 14)), og 16 10 false (.mov (.t 15)), og 17 16 true (.faddr 0 (.t 2)), og 18 16 true (.load false 1 (.t 17)), og 19 16 true (.bin .eql (.t 18) (.v (.int .i64 0))), og 20 16 true (.mov (.t 19)), og 21 20 true (.faddr 1 (.t 2)), og 22 20 true (.load false 1 (.t 21)), og 23 20 true (.faddr 1 (.t 3)), og 24 20 true (.load false 1 (.t 23)), og 25 20 true (.bin .lss (.t 22) (.t 24)), og 26 16 true (.pick (.t 20) (.t 25) (.v (.bool false))), og 27 16 true (.mov (.t 26)), og 28 27 false (.faddr 0 (.t 2)), og 29 27 false (.load false 1 (.t 28)), og 30 27 false (.bin .eql (.t 29) (.v (.int .i64 1))), og 31 27 false (.mov (.t 30)), og 32 31 true (.faddr 2 (.t 2)), og 33 31 true (.load false 1 (.t 32)), og 34 31 true (.faddr 2 (.t 3)), og 35 31 true (.load false 1 (.t 34)), og 36 31 true (.bin .lss (.t 33) (.t 35)), og 37 27 false (.pick (.t 31) (.t 36) (.v (.bool false))), og 38 16 true (.pick (.t 27) (.v (.bool true)) (.t 37)), og 39 10 false (.pick (.t 16) (.t 38) (.v (.bool false))), oo 40 (.pick (.t 10) (.v (.bool true)) (.t 39))]) (.cond (.t 40) (.seq (.ops [oo 4 (.mov (.v (.int .i64 (-1))))]) .ret) .skip)) (.seq (.seq (.ops [oo 41 (.faddr 0 (.t 2)), oo 42 (.load false 1 (.t 41)), oo 43 (.faddr 0 (.t 3)), oo 44 (.load false 1 (.t 43)), oo 45 (.bin .gtr (.t 42) (.t 44)), oo 46 (.mov (.t 45)), og 47 46 false (.faddr 0 (.t 2)), og 48 46 false (.load false 1 (.t 47)), og 49 46 false (.faddr 0 (.t 3)), og 50 46 false (.load false 1 (.t 49)), og 51 46 false (.bin .eql (.t 48) (.t 50)), og 52 46 false (.mov (.t 51)), og 53 52 true (.faddr 0 (.t 2)), og 54 52 true (.load false 1 (.t 53)), og 55 52 true (.bin .eql (.t 54) (.v (.int .i64 0))), og 56 52 true (.mov (.t 55)), og 57 56 true (.faddr 1 (.t 2)), og 58 56 true (.load false 1 (.t 57)), og 59 56 true (.faddr 1 (.t 3)), og 60 56 true (.load false 1 (.t 59)), og 61 56 true (.bin .gtr (.t 58) (.t 60)), og 62 52 true (.pick (.t 56) (.t 61) (.v (.bool false))), og 63 52 true (.mov (.t 62)), og 64 63 false (.faddr 0 (.t 2)), og 65 63 false (.load false 1 (.t 64)), og 66 63 false (.bin .eql (.t 65) (.v (.int .i64 1))), og 67 63 false (.mov (.t 66)), og 68 67 true (.faddr 2 (.t 2)), og 69 67 true (.load false 1 (.t 68)), og 70 67 true (.faddr 2 (.t 3)), og 71 67 true (.load false 1 (.t 70)), og 72 67 true (.bin .gtr (.t 69) (.t 71)), og 73 63 false (.pick (.t 67) (.t 72) (.v (.bool false))), og 74 52 true (.pick (.t 63) (.v (.bool true)) (.t 73)), og 75 46 false (.pick (.t 52) (.t 74) (.v (.bool false))), oo 76 (.pick (.t 46) (.v (.bool true)) (.t 75))]) (.cond (.t 76) (.seq (.ops [oo 4 (.mov (.v (.int .i64 1)))]) .ret) .skip)) (.seq (.ops [oo 4 (.mov (.v (.int .i64 0)))]) .ret))))⟩
theorem c69 : aD Tryz.prog 69 = some F69 := by kernel_rfl
theorem RT (a b : Val) (H : AH) : aC Tryz.prog 69 [eC a, eC b] H fun x H' => x = .int .i64 (gZ a b) ∧ H' = H := by
  refine aG c69 (fun _ => rfl) (by simp [F69]) ?_
  unfold F69 eC
  obtain ⟨a0, a1, a2⟩ := a
  obtain ⟨b0, b1, b2⟩ := b
  simp only [gZ]
  by_cases h1 : a0 < b0
  · have e : ¬ a0 = b0 := by omega
    rw [if_neg e, jU, if_pos h1]
    simp only [push_cast, ↓reduceIte, Nat.reduceEqDiff, reduceCtorEq, Nat.reduceAdd, Nat.reduceLT, Nat.reduceLeDiff, aB, aA, h1, decide_true]
    (repeat (first | exact List.prefix_refl _ | refine List.IsPrefix.trans ?_ (List.prefix_append _ _)))
  · by_cases h2 : a0 > b0
    · have e : ¬ a0 = b0 := by omega
      have h3 : b0 < a0 := h2
      rw [if_neg e, jU, if_neg h1, if_pos h3]
      simp only [push_cast, ↓reduceIte, Nat.reduceEqDiff, reduceCtorEq, Nat.reduceAdd, Nat.reduceLT, Nat.reduceLeDiff, aB, aA, h1, h2, e, decide_true, decide_false]
      (repeat (first | exact List.prefix_refl _ | refine List.IsPrefix.trans ?_ (List.prefix_append _ _)))
    · obtain rfl : a0 = b0 := by omega
      have e : a0 = a0 := rfl
      rw [if_pos rfl]
      by_cases k0 : a0 = 0
      · subst k0
        have k1 : ¬ (0 : Int) = 1 := by decide
        rw [if_pos rfl]
        by_cases q1 : a1 < b1
        · rw [jU, if_pos q1]
          simp only [push_cast, ↓reduceIte, Nat.reduceEqDiff, reduceCtorEq, Nat.reduceAdd, Nat.reduceLT, Nat.reduceLeDiff, aB, aA, h1, h2, q1, k1, decide_true, decide_false]
          (repeat (first | exact List.prefix_refl _ | refine List.IsPrefix.trans ?_ (List.prefix_append _ _)))
        · by_cases q2 : a1 > b1
          · have q3 : b1 < a1 := q2
            rw [jU, if_neg q1, if_pos q3]
            simp only [push_cast, ↓reduceIte, Nat.reduceEqDiff, reduceCtorEq, Nat.reduceAdd, Nat.reduceLT, Nat.reduceLeDiff, aB, aA, h1, h2, q1, q2, k1, decide_true, decide_false]
            (repeat (first | exact List.prefix_refl _ | refine List.IsPrefix.trans ?_ (List.prefix_append _ _)))
          · have q3 : ¬ b1 < a1 := q2
            rw [jU, if_neg q1, if_neg q3]
            simp only [push_cast, ↓reduceIte, Nat.reduceEqDiff, reduceCtorEq, Nat.reduceAdd, Nat.reduceLT, Nat.reduceLeDiff, aB, aA, h1, h2, q1, q2, k1, decide_true, decide_false]
            (repeat (first | exact List.prefix_refl _ | refine List.IsPrefix.trans ?_ (List.prefix_append _ _)))
      · rw [if_neg k0]
        by_cases k1 : a0 = 1
        · subst k1
          have k2 : ¬ (1 : Int) = 0 := by decide
          rw [if_pos rfl]
          unfold BO
          cases q1 : Op.bytesLess a2.toList b2.toList with
          | true =>
            simp only [push_cast, ↓reduceIte, Nat.reduceEqDiff, reduceCtorEq, Nat.reduceAdd, Nat.reduceLT, Nat.reduceLeDiff, aB, aA, h1, h2, q1, k2, decide_true, decide_false]
            (repeat (first | exact List.prefix_refl _ | refine List.IsPrefix.trans ?_ (List.prefix_append _ _)))
          | false =>
            cases q2 : Op.bytesLess b2.toList a2.toList with
            | true =>
              simp only [push_cast, ↓reduceIte, Nat.reduceEqDiff, reduceCtorEq, Nat.reduceAdd, Nat.reduceLT, Nat.reduceLeDiff, aB, aA, h1, h2, q1, q2, k2, decide_true, decide_false]
              (repeat (first | exact List.prefix_refl _ | refine List.IsPrefix.trans ?_ (List.prefix_append _ _)))
            | false =>
              simp only [push_cast, ↓reduceIte, Nat.reduceEqDiff, reduceCtorEq, Nat.reduceAdd, Nat.reduceLT, Nat.reduceLeDiff, aB, aA, h1, h2, q1, q2, k2, decide_true, decide_false]
              (repeat (first | exact List.prefix_refl _ | refine List.IsPrefix.trans ?_ (List.prefix_append _ _)))
        · rw [if_neg k1]
          simp only [push_cast, ↓reduceIte, Nat.reduceEqDiff, reduceCtorEq, Nat.reduceAdd, Nat.reduceLT, Nat.reduceLeDiff, aB, aA, h1, h2, k0, k1, decide_true, decide_false]
          (repeat (first | exact List.prefix_refl _ | refine List.IsPrefix.trans ?_ (List.prefix_append _ _)))
def F33 : AFn := ⟨41, 2, [.t 4], (.seq (.ops [oo 4 (.mov (.v (.int .i64 0)))]) (.seq (.seq (.ops [oo 5 (.mov (.v (.int .i64 0)))]) (.block 0 (.loop (.seq (.seq (.ops [oo 7 (.mov (.t 5)), oo 8 (.mov (.t 0)), oo 9 (.len (.t 8)), oo 10 (.bin .lss (.t 7) (.t 9)), oo 11 (.mov (.t 10)), og 12 11 true (.mov (.t 5)), og 13 11 true (.mov (.t 1)), og 14 11 true (.len (.t 13)), og 15 11 true (.bin .lss (.t 12) (.t 14)), oo 16 (.pick (.t 11) (.t 15) (.v (.bool false)))]) (.cond (.t 16) .skip (.exit 0))) (.seq (.block 1 (.seq (.ops [oo 41 (.mov (.t 0)), oo 42 (.mov (.t 5)), oo 43 (.iaddr 3 (.t 41) (.t 42)), oo 44 (.load true 3 (.t 43)), oo 45 (.mov (.t 1)), oo 46 (.mov (.t 5)), oo 47 (.iaddr 3 (.t 45) (.t 46)), oo 48 (.load true 3 (.t 47)), oo 49 (.call 69 [(.t 44), (.t 48)]), oo 50 (.mov (.t 49)), oo 19 (.mov (.t 41)), oo 20 (.mov (.t 42)), oo 21 (.mov (.t 43)), oo 22 (.mov (.t 44)), oo 23 (.mov (.t 45)), oo 24 (.mov (.t 46)), oo 25 (.mov (.t 47)), oo 26 (.mov (.t 48)), oo 27 (.mov (.t 49)), oo 6 (.mov (.t 50))]) (.seq (.ops [oo 28 (.mov (.t 6)), oo 29 (.bin .neq (.t 28) (.v (.int .i64 0)))]) (.cond (.t 29) (.seq (.ops [oo 30 (.mov (.t 6)), oo 4 (.mov (.t 30))]) .ret) .skip)))) (.ops [oo 17 (.mov (.t 5)), oo 18 (.bin .add (.t 17) (.v (.int .i64 1))), oo 5 (.mov (.t 18))])))))) (.seq (.seq (.ops [oo 31 (.mov (.t 0)), oo 32 (.len (.t 31)), oo 33 (.mov (.t 1)), oo 34 (.len (.t 33)), oo 35 (.bin .lss (.t 32) (.t 34))]) (.cond (.t 35) (.seq (.ops [oo 4 (.mov (.v (.int .i64 (-1))))]) .ret) .skip)) (.seq (.seq (.ops [oo 36 (.mov (.t 0)), oo 37 (.len (.t 36)), oo 38 (.mov (.t 1)), oo 39 (.len (.t 38)), oo 40 (.bin .gtr (.t 37) (.t 39))]) (.cond (.t 40) (.seq (.ops [oo 4 (.mov (.v (.int .i64 1)))]) .ret) .skip)) (.seq (.ops [oo 4 (.mov (.v (.int .i64 0)))]) .ret)))))⟩
theorem c33 : aD Tryz.prog 33 = some F33 := by kernel_rfl
theorem pJ (x y : AV) (a b : List Val) (H : AH) (hx : elems 3 x H = some (a.map eC)) (hy : elems 3 y H = some (b.map eC)) (ha : a.length < 1099511627776) (hb : b.length < 1099511627776) : aC Tryz.prog 33 [x, y] H fun r H' => r = .int .i64 (bG a b) ∧ H' = H := by
  refine aG c33 (fun _ => rfl) (by simp [F33]) ?_
  unfold F33
  have la := aL hx
  have lb := aL hy
  rw [List.length_map] at la lb
  simp only [push_cast, ↓reduceIte, Nat.reduceEqDiff, reduceCtorEq, Nat.reduceAdd, Nat.reduceLT, Nat.reduceLeDiff]
  refine aI (fun (i : Nat) f H' => H <+: H' ∧ i ≤ a.length ∧ i ≤ b.length ∧ f 0 = x ∧ f 1 = y ∧ f 5 = .int .i64 i ∧ bG a b = bG (a.drop i) (b.drop i)) (fun i => a.length - i) 0 ⟨List.prefix_refl _, Nat.zero_le _, Nat.zero_le _, rfl, rfl, rfl, rfl⟩ ?_
  rintro i f H' ⟨hp, h1, h2, e0, e1, e5, ho⟩
  by_cases hi : i < a.length
  · have hi' : (i : Int) < a.length := by omega
    by_cases hj : i < b.length
    · have hj' : (i : Int) < b.length := by omega
      have ax : aF 3 x (.int .i64 (i : Int)) = some (ptk x i 0) := aK hx (by rw [List.length_map]; exact hi) _
      have ay : aF 3 y (.int .i64 (i : Int)) = some (ptk y i 0) := aK hy (by rw [List.length_map]; exact hj) _
      have lx : (a.map eC)[i]? = some (eC a[i]) := by simp [hi]
      have ly : (b.map eC)[i]? = some (eC b[i]) := by simp [hj]
      rw [List.drop_eq_getElem_cons hi, List.drop_eq_getElem_cons hj, bG] at ho
      generalize a[i] = u at lx ho
      generalize b[i] = w at ly ho
      have pv : ∀ v, part true 3 0 (eC v) = some (eC v) := fun _ => rfl
      simp only [push_cast, ↓reduceIte, Nat.reduceEqDiff, reduceCtorEq, Nat.reduceAdd, Nat.reduceLT, Nat.reduceLeDiff, aB, aA, e0, e1, e5, la, lb, hi', hj', decide_true, ax, ay, aO hx lx, aO hy ly, hp, pv]
      (refine aC.look (RT u w _) ?_; simp only [push_cast, ↓reduceIte, Nat.reduceEqDiff, reduceCtorEq, Nat.reduceAdd, Nat.reduceLT, Nat.reduceLeDiff, aB, aA, e0, e1, e5])
      by_cases hc : gZ u w = 0
      · rw [if_pos hc] at ho
        simp only [push_cast, ↓reduceIte, Nat.reduceEqDiff, reduceCtorEq, Nat.reduceAdd, Nat.reduceLT, Nat.reduceLeDiff, hc, e0, e1, e5]
        refine ⟨i + 1, ⟨hp, hi, hj, ?_, ho⟩, by omega⟩
        rw [aE (by omega) (by omega)]; simp
      · rw [if_neg hc] at ho
        simp only [push_cast, ↓reduceIte, Nat.reduceEqDiff, reduceCtorEq, Nat.reduceAdd, Nat.reduceLT, Nat.reduceLeDiff, hc, e0, e1, e5]
        exact ⟨hp, by rw [ho]⟩
    · have hj' : ¬ (i : Int) < b.length := by omega
      have q1 : ¬ (a.length : Int) < b.length := by omega
      have q2 : (a.length : Int) > b.length := by omega
      have hd : bG a b = 1 := by
        have hb0 : b.drop i = [] := List.drop_eq_nil_of_le (by omega)
        rw [ho, hb0, List.drop_eq_getElem_cons hi]; rfl
      simp only [push_cast, ↓reduceIte, Nat.reduceEqDiff, reduceCtorEq, Nat.reduceAdd, Nat.reduceLT, Nat.reduceLeDiff, aB, aA, e0, e1, e5, la, lb, hi', hj', q1, q2, decide_true, decide_false]
      exact ⟨hp, by rw [hd]⟩
  · have hi' : ¬ (i : Int) < a.length := by omega
    by_cases hj : i < b.length
    · have q1 : (a.length : Int) < b.length := by omega
      have hd : bG a b = -1 := by
        have ha0 : a.drop i = [] := List.drop_eq_nil_of_le (by omega)
        rw [ho, ha0, List.drop_eq_getElem_cons hj]; rfl
      simp only [push_cast, ↓reduceIte, Nat.reduceEqDiff, reduceCtorEq, Nat.reduceAdd, Nat.reduceLT, Nat.reduceLeDiff, aB, aA, e0, e1, e5, la, lb, hi', q1, decide_true, decide_false]
      exact ⟨hp, by rw [hd]⟩
    · have q1 : ¬ (a.length : Int) < b.length := by omega
      have q2 : ¬ (a.length : Int) > b.length := by omega
      have hd : bG a b = 0 := by
        have ha0 : a.drop i = [] := List.drop_eq_nil_of_le (by omega)
        have hb0 : b.drop i = [] := List.drop_eq_nil_of_le (by omega)
        rw [ho, ha0, hb0]; rfl
      simp only [push_cast, ↓reduceIte, Nat.reduceEqDiff, reduceCtorEq, Nat.reduceAdd, Nat.reduceLT, Nat.reduceLeDiff, aB, aA, e0, e1, e5, la, lb, hi', q1, q2, decide_false]
      exact ⟨hp, by rw [hd]⟩
def F35 : AFn := ⟨9, 2, [.t 4], (.seq (.ops [oo 4 (.mov (.v (.bool false)))]) (.seq (.ops [oo 5 (.mov (.t 0)), oo 6 (.mov (.t 1)), oo 7 (.call 33 [(.t 5), (.t 6)]), oo 8 (.bin .eql (.t 7) (.v (.int .i64 0))), oo 4 (.mov (.t 8))]) .ret))⟩
theorem c35 : aD Tryz.prog 35 = some F35 := by kernel_rfl
theorem NF (x y : AV) (a b : List Val) (H : AH) (hx : elems 3 x H = some (a.map eC)) (hy : elems 3 y H = some (b.map eC)) (ha : a.length < 1099511627776) (hb : b.length < 1099511627776) : aC Tryz.prog 35 [x, y] H fun r H' => r = .bool (decide (bG a b = 0)) ∧ H' = H := by
  refine aG c35 (fun _ => rfl) (by simp [F35]) ?_
  unfold F35
  simp only [push_cast, ↓reduceIte, Nat.reduceEqDiff, reduceCtorEq, Nat.reduceAdd, Nat.reduceLT, Nat.reduceLeDiff]
  (refine aC.look (pJ x y a b _ hx hy ha hb) ?_; try simp only [push_cast, ↓reduceIte, Nat.reduceEqDiff, reduceCtorEq, Nat.reduceAdd, Nat.reduceLT, Nat.reduceLeDiff, aB, aA])
  (repeat (first | exact List.prefix_refl _ | refine List.IsPrefix.trans ?_ (List.prefix_append _ _)))
def F88 : AFn := ⟨27, 2, [.t 4], (.seq (.ops [oo 2 (.box 2 (.t 0)), oo 3 (.box 2 (.t 1)), oo 4 (.mov (.v (.int .i64 0)))]) (.seq (.seq (.ops [oo 5 (.load true 2 (.t 2)), oo 6 (.load true 2 (.t 3)), oo 7 (.eqa false [0, 0] (.t 5) (.t 6))]) (.cond (.t 7) (.seq (.ops [oo 4 (.mov (.v (.int .i64 0)))]) .ret) .skip)) (.seq (.seq (.ops [oo 8 (.faddr 0 (.t 2)), oo 9 (.load false 1 (.t 8)), oo 10 (.faddr 0 (.t 3)), oo 11 (.load false 1 (.t 10)), oo 12 (.bin .lss (.t 9) (.t 11)), oo 13 (.mov (.t 12)), og 14 13 false (.faddr 0 (.t 2)), og 15 13 false (.load false 1 (.t 14)), og 16 13 false (.faddr 0 (.t 3)), og 17 13 false (.load false 1 (.t 16)), og 18 13 false (.bin .eql (.t 15) (.t 17)), og 19 13 false (.mov (.t 18)), og 20 19 true (.faddr 1 (.t 2)), og 21 19 true (.load false 1 (.t 20)), og 22 19 true (.faddr 1 (.t 3)), og 23 19 true (.load false 1 (.t 22)), og 24 19 true (.bin .lss (.t 21) (.t 23)), og 25 13 false (.pick (.t 19) (.t 24) (.v (.bool false))), oo 26 (.pick (.t 13) (.v (.bool true)) (.t 25))]) (.cond (.t 26) (.seq (.ops [oo 4 (.mov (.v (.int .i64 (-1))))]) .ret) .skip)) (.seq (.ops [oo 4 (.mov (.v (.int .i64 1)))]) .ret))))⟩
theorem c88 : aD Tryz.prog 88 = some F88 := by kernel_rfl
theorem kG (a b : Tm) (H : AH) : aC Tryz.prog 88 [aQ a, aQ b] H fun r H' => r = .int .i64 (cP a b) ∧ H' = H := by
  refine aG c88 (fun _ => rfl) (by simp [F88]) ?_
  unfold F88 aQ
  obtain ⟨a0, a1⟩ := a
  obtain ⟨b0, b1⟩ := b
  have q := rC ⟨a0, a1⟩ ⟨b0, b1⟩
  dsimp only at q ⊢
  by_cases h : (⟨a0, a1⟩ : Tm) = ⟨b0, b1⟩
  · have h' := h
    injection h' with h0 h1
    rw [show cP ⟨a0, a1⟩ ⟨b0, b1⟩ = 0 from (gN _ _).2 h]
    simp only [push_cast, ↓reduceIte, Nat.reduceEqDiff, reduceCtorEq, Nat.reduceAdd, Nat.reduceLT, Nat.reduceLeDiff, aB, aA, q, h, decide_true]
    (repeat (first | exact List.prefix_refl _ | refine List.IsPrefix.trans ?_ (List.prefix_append _ _)))
  · by_cases h1 : a0 < b0
    · have ne : ¬ a0 = b0 := by omega
      have e : cP ⟨a0, a1⟩ ⟨b0, b1⟩ = -1 := by simp only [cP, if_neg ne, jU, if_pos h1]
      rw [e]
      simp only [push_cast, ↓reduceIte, Nat.reduceEqDiff, reduceCtorEq, Nat.reduceAdd, Nat.reduceLT, Nat.reduceLeDiff, aB, aA, q, h, h1, decide_true, decide_false]
      (repeat (first | exact List.prefix_refl _ | refine List.IsPrefix.trans ?_ (List.prefix_append _ _)))
    · by_cases h2 : a0 = b0
      · have h3 : ¬ a1 = b1 := fun e => h (by rw [h2, e])
        by_cases h4 : a1 < b1
        · have e : cP ⟨a0, a1⟩ ⟨b0, b1⟩ = -1 := by simp only [cP, if_pos h2, jU, if_pos h4]
          rw [e]
          subst h2
          have e0 : a0 = a0 := rfl
          simp only [push_cast, ↓reduceIte, Nat.reduceEqDiff, reduceCtorEq, Nat.reduceAdd, Nat.reduceLT, Nat.reduceLeDiff, aB, aA, q, h, h1, h4, decide_true, decide_false]
          (repeat (first | exact List.prefix_refl _ | refine List.IsPrefix.trans ?_ (List.prefix_append _ _)))
        · have e : cP ⟨a0, a1⟩ ⟨b0, b1⟩ = 1 := by simp only [cP, if_pos h2, jU, if_neg h4, if_pos (show b1 < a1 by omega)]
          rw [e]
          subst h2
          have e0 : a0 = a0 := rfl
          simp only [push_cast, ↓reduceIte, Nat.reduceEqDiff, reduceCtorEq, Nat.reduceAdd, Nat.reduceLT, Nat.reduceLeDiff, aB, aA, q, h, h1, h4, decide_true, decide_false]
          (repeat (first | exact List.prefix_refl _ | refine List.IsPrefix.trans ?_ (List.prefix_append _ _)))
      · have e : cP ⟨a0, a1⟩ ⟨b0, b1⟩ = 1 := by simp only [cP, if_neg h2, jU, if_neg h1, if_pos (show b0 < a0 by omega)]
        rw [e]
        simp only [push_cast, ↓reduceIte, Nat.reduceEqDiff, reduceCtorEq, Nat.reduceAdd, Nat.reduceLT, Nat.reduceLeDiff, aB, aA, q, h, h1, h2, decide_false]
        (repeat (first | exact List.prefix_refl _ | refine List.IsPrefix.trans ?_ (List.prefix_append _ _)))
def F60 : AFn := ⟨19, 2, [.t 4], (.seq (.ops [oo 2 (.box 4 (.t 0)), oo 3 (.box 4 (.t 1)), oo 4 (.mov (.v (.int .i64 0)))]) (.seq (.ops [oo 6 (.faddr 0 (.t 2)), oo 7 (.load false 1 (.t 6)), oo 8 (.faddr 0 (.t 3)), oo 9 (.load false 1 (.t 8)), oo 10 (.call 33 [(.t 7), (.t 9)]), oo 5 (.mov (.t 10))]) (.seq (.seq (.ops [oo 11 (.mov (.t 5)), oo 12 (.bin .neq (.t 11) (.v (.int .i64 0)))]) (.cond (.t 12) (.seq (.ops [oo 13 (.mov (.t 5)), oo 4 (.mov (.t 13))]) .ret) .skip)) (.seq (.ops [oo 14 (.faddr 1 (.t 2)), oo 15 (.load true 2 (.t 14)), oo 16 (.faddr 1 (.t 3)), oo 17 (.load true 2 (.t 16)), oo 18 (.call 88 [(.t 15), (.t 17)]), oo 4 (.mov (.t 18))]) .ret))))⟩
theorem c60 : aD Tryz.prog 60 = some F60 := by kernel_rfl
theorem vQ (a b : Upd) (H : AH) (ha : a.f0.length < 1099511627776) (hb : b.f0.length < 1099511627776) : aC Tryz.prog 60 [upA a, upA b] H fun r H' => r = .int .i64 (bL a b) ∧ H' = H := by
  refine aG c60 (fun _ => rfl) (by simp [F60]) ?_
  unfold F60 upA bL
  have cr : ∀ k, cells (aS k) = [aS k] ∧ dH (aS k) = true := fun _ => ⟨rfl, rfl⟩
  simp only [push_cast, ↓reduceIte, Nat.reduceEqDiff, reduceCtorEq, Nat.reduceAdd, Nat.reduceLT, Nat.reduceLeDiff, aB, aA, cr]
  (refine aC.look (pJ (aS a.f0) (aS b.f0) a.f0 b.f0 _ rfl rfl ha hb) ?_; try simp only [push_cast, ↓reduceIte, Nat.reduceEqDiff, reduceCtorEq, Nat.reduceAdd, Nat.reduceLT, Nat.reduceLeDiff, aB, aA])
  by_cases h : bG a.f0 b.f0 = 0
  · simp only [push_cast, ↓reduceIte, Nat.reduceEqDiff, reduceCtorEq, Nat.reduceAdd, Nat.reduceLT, Nat.reduceLeDiff, aB, aA, h, cr]
    (refine aC.look (kG a.f1 b.f1 _) ?_; try simp only [push_cast, ↓reduceIte, Nat.reduceEqDiff, reduceCtorEq, Nat.reduceAdd, Nat.reduceLT, Nat.reduceLeDiff, aB, aA])
    (repeat (first | exact List.prefix_refl _ | refine List.IsPrefix.trans ?_ (List.prefix_append _ _)))
  · simp only [push_cast, ↓reduceIte, Nat.reduceEqDiff, reduceCtorEq, Nat.reduceAdd, Nat.reduceLT, Nat.reduceLeDiff, aB, aA, h, cr]
    (repeat (first | exact List.prefix_refl _ | refine List.IsPrefix.trans ?_ (List.prefix_append _ _)))
end Go.Eng
end
section
set_option linter.unusedVariables false
set_option linter.unusedSimpArgs false
namespace Go.Eng
open Go Go.Proofs
def DK : List Tm → List Tm → List Tm
  | out, [] => out
  | out, t :: r => DK (if cC out t = true then out else out ++ [t]) r
theorem nC : ∀ (S out : List Tm), S.foldl (fun out t => if cC out t = true then out else out ++ [t]) out = DK out S
  | [], _ => rfl
  | t :: r, out => by rw [List.foldl_cons, nC r]; rfl
theorem NG (l : List Tm) : mV l = DK [] (Stab.sortS cP l) := nC _ _
def leT (a b : Tm) : Bool := decide (a.f0 ≤ b.f0 ∧ a.f1 ≤ b.f1)
theorem pK (a b : Tm) : leT a b = true ↔ a.f0 ≤ b.f0 ∧ a.f1 ≤ b.f1 := by simp [leT]
theorem vR (a : Tm) : leT a a = true := by simp [leT]
theorem DL {a b c : Tm} (h1 : leT a b = true) (h2 : leT b c = true) : leT a c = true := by
  rw [pK] at *; omega
theorem VI {a b : Tm} (h0 : a.f0 = b.f0) (h1 : a.f1 = b.f1) : a = b := by cases a; cases b; simp_all
theorem uH (x y : Tm) : cP x y ≤ 0 ↔ x.f0 < y.f0 ∨ (x.f0 = y.f0 ∧ x.f1 ≤ y.f1) := by
  unfold cP jU
  repeat' split
  all_goals omega
theorem DM {a b : Tm} (h : leT a b = true) : cP a b ≤ 0 := by
  rw [pK] at h; rw [uH]; omega
theorem rM {a b : Tm} (h1 : cP a b ≤ 0) (h2 : cP b a ≤ 0) : a = b := by
  rw [uH] at *; exact VI (by omega) (by omega)
theorem rN (t : Tm) : ∀ out : List Tm, (∀ x ∈ out, cP x t ≤ 0) → (cC out t = true ↔ ∃ x ∈ out, leT x t = true)
  | [], _ => by simp [cC]
  | x :: r, h => by
    have hx := (uH x t).1 (h x List.mem_cons_self)
    have ih := rN t r (fun y hy => h y (List.mem_cons_of_mem _ hy))
    unfold cC
    rw [if_neg (by omega)]
    by_cases h1 : x.f1 ≤ t.f1
    · rw [if_pos h1]
      exact ⟨fun _ => ⟨x, List.mem_cons_self, (pK x t).2 (by omega)⟩, fun _ => rfl⟩
    · rw [if_neg h1, ih]
      constructor
      · rintro ⟨y, hy, h2⟩; exact ⟨y, List.mem_cons_of_mem _ hy, h2⟩
      · rintro ⟨y, hy, h2⟩
        rcases List.mem_cons.1 hy with rfl | hy
        · rw [pK] at h2; omega
        · exact ⟨y, hy, h2⟩
structure Least (P : Tm → Prop) (out : List Tm) : Prop where
  srt : out.Pairwise fun x y => cP x y < 0
  mem : ∀ t, t ∈ out ↔ P t ∧ ∀ x, P x → leT x t = true → x = t
theorem nD : ∀ x y : List Tm, x.Pairwise (fun x y => cP x y < 0) → y.Pairwise (fun x y => cP x y < 0) → (∀ t, t ∈ x ↔ t ∈ y) → x = y
  | [], [], _, _, _ => rfl
  | [], b :: y, _, _, h => absurd ((h b).2 List.mem_cons_self) List.not_mem_nil
  | a :: x, [], _, _, h => absurd ((h a).1 List.mem_cons_self) List.not_mem_nil
  | a :: x, b :: y, hx, hy, h => by
    rw [List.pairwise_cons] at hx hy
    have e : a = b := by
      rcases List.mem_cons.1 ((h a).1 List.mem_cons_self) with e | ha
      · exact e
      · rcases List.mem_cons.1 ((h b).2 List.mem_cons_self) with e | hb
        · exact e.symm
        · have h1 := hx.1 b hb
          have h2 := hy.1 a ha
          have := oP a b
          omega
    subst e
    have h3 : ∀ t, t ∈ x ↔ t ∈ y := fun t => by
      constructor
      · intro ht
        rcases List.mem_cons.1 ((h t).1 (List.mem_cons_of_mem _ ht)) with e | h4
        · subst e; have := hx.1 t ht; rw [lI] at this; omega
        · exact h4
      · intro ht
        rcases List.mem_cons.1 ((h t).2 (List.mem_cons_of_mem _ ht)) with e | h4
        · subst e; have := hy.1 t ht; rw [lI] at this; omega
        · exact h4
    rw [nD x y hx.2 hy.2 h3]
theorem Least.uniq {P : Tm → Prop} {x y : List Tm} (hx : Least P x) (hy : Least P y) : x = y :=
  nD x y hx.srt hy.srt (fun t => (hx.mem t).trans (hy.mem t).symm)
theorem Least.congr {P Q : Tm → Prop} {x : List Tm} (hx : Least P x) (h : ∀ t, P t ↔ Q t) : Least Q x :=
  ⟨hx.srt, fun t => by rw [hx.mem t, h t]; exact ⟨fun ⟨a, b⟩ => ⟨a, fun x hx => b x ((h x).2 hx)⟩, fun ⟨a, b⟩ => ⟨a, fun x hx => b x ((h x).1 hx)⟩⟩⟩
structure rP (P : Tm → Prop) (out : List Tm) : Prop extends Least P out where
  dom : ∀ t, P t → ∃ m ∈ out, leT m t = true
theorem lV : ∀ (rest : List Tm) (P : Tm → Prop) (out : List Tm), rP P out → (∀ p, P p → ∀ r ∈ rest, cP p r ≤ 0) → rest.Pairwise (fun x y => cP x y ≤ 0) → rP (fun t => P t ∨ t ∈ rest) (DK out rest)
  | [], P, out, h, _, _ => ⟨h.toLeast.congr (fun t => by simp), fun t ht => h.dom t (by simpa using ht)⟩
  | t :: r, P, out, h, hp, hs => by
    rw [List.pairwise_cons] at hs
    have hout : ∀ x ∈ out, P x := fun x hx => ((h.mem x).1 hx).1
    have ha := rN t out (fun x hx => hp x (hout x hx) t List.mem_cons_self)
    have hPt : ∀ p, (P p ∨ p = t) → ∀ q ∈ r, cP p q ≤ 0 := by
      rintro p (h1 | rfl) q hq
      · exact hp p h1 q (List.mem_cons_of_mem _ hq)
      · exact hs.1 q hq
    have key : rP (fun x => P x ∨ x = t) (if cC out t = true then out else out ++ [t]) := by
      by_cases hc : cC out t = true
      · rw [if_pos hc]
        obtain ⟨m, hm, hmt⟩ := ha.1 hc
        refine ⟨⟨h.srt, fun s => ?_⟩, ?_⟩
        · rw [h.mem s]
          constructor
          · rintro ⟨h1, h2⟩
            refine ⟨.inl h1, ?_⟩
            rintro x (hx | rfl) hl
            · exact h2 x hx hl
            · exact rM (DM hl) (hp s h1 x List.mem_cons_self)
          · rintro ⟨h1 | rfl, h2⟩
            · exact ⟨h1, fun x hx hl => h2 x (.inl hx) hl⟩
            · have e := h2 m (.inl (hout m hm)) hmt
              subst e
              exact ⟨hout m hm, fun x hx hl => h2 x (.inl hx) hl⟩
        · rintro s (h1 | rfl)
          · exact h.dom s h1
          · exact ⟨m, hm, hmt⟩
      · rw [if_neg hc]
        have hno : ∀ x, P x → leT x t = true → False := fun x hx hl => by
          obtain ⟨m, hm, hmx⟩ := h.dom x hx
          exact hc (ha.2 ⟨m, hm, DL hmx hl⟩)
        refine ⟨⟨?_, fun s => ?_⟩, ?_⟩
        · rw [List.pairwise_append]
          refine ⟨h.srt, List.pairwise_singleton _ _, fun x hx y hy => ?_⟩
          rw [List.mem_singleton.1 hy]
          have h1 := hp x (hout x hx) t List.mem_cons_self
          have h2 : cP x t ≠ 0 := fun e => hno x (hout x hx) (by rw [(gN x t).1 e]; exact vR t)
          omega
        · rw [List.mem_append, h.mem s, List.mem_singleton]
          constructor
          · rintro (⟨h1, h2⟩ | rfl)
            · refine ⟨.inl h1, ?_⟩
              rintro x (hx | rfl) hl
              · exact h2 x hx hl
              · exact rM (DM hl) (hp s h1 x List.mem_cons_self)
            · refine ⟨.inr rfl, ?_⟩
              rintro x (hx | rfl) hl
              · exact (hno x hx hl).elim
              · rfl
          · rintro ⟨h1 | rfl, h2⟩
            · exact .inl ⟨h1, fun x hx hl => h2 x (.inl hx) hl⟩
            · exact .inr rfl
        · rintro s (h1 | rfl)
          · obtain ⟨m, hm, hl⟩ := h.dom s h1
            exact ⟨m, List.mem_append_left _ hm, hl⟩
          · exact ⟨s, by simp, vR s⟩
    have ih := lV r (fun x => P x ∨ x = t) _ key (fun p hp2 q hq => hPt p hp2 q hq) hs.2
    have e : ∀ s, ((P s ∨ s = t) ∨ s ∈ r) ↔ (P s ∨ s ∈ t :: r) := fun s => by simp [or_assoc]
    show rP _ (DK (if cC out t = true then out else out ++ [t]) r)
    exact ⟨ih.toLeast.congr e, fun s hs => ih.dom s ((e s).2 hs)⟩
theorem xR (l : List Tm) : rP (fun t => t ∈ l) (mV l) := by
  rw [NG]
  have h := lV (Stab.sortS cP l) (fun _ => False) [] ⟨⟨List.Pairwise.nil, fun t => by simp⟩, fun t h => h.elim⟩ (fun p hp => hp.elim) (Stab.sortS_srt GX l)
  have e : ∀ t, (False ∨ t ∈ Stab.sortS cP l) ↔ t ∈ l := fun t => by simp [Stab.sortS_mem]
  exact ⟨h.toLeast.congr e, fun t ht => h.dom t ((e t).2 ht)⟩
def gD : List Tm → Tm → List Tm
  | [], t => [t]
  | x :: r, t => if cP x t < 0 then x :: gD r t else if cP x t = 0 then x :: r else t :: x :: r
theorem pL : ∀ (l : List Tm) (t s : Tm), s ∈ gD l t ↔ s = t ∨ s ∈ l
  | [], t, s => by simp [gD]
  | x :: r, t, s => by
    unfold gD
    split
    · rw [List.mem_cons, pL r t s, List.mem_cons]
      exact ⟨fun h => by rcases h with h | h | h <;> simp [h], fun h => by rcases h with h | h | h <;> simp [h]⟩
    · split
      · rename_i h
        have := (gN x t).1 h
        subst this
        simp
      · simp
theorem vS : ∀ (l : List Tm) (t : Tm), l.Pairwise (fun x y => cP x y < 0) → (gD l t).Pairwise (fun x y => cP x y < 0)
  | [], t, _ => List.pairwise_singleton _ _
  | x :: r, t, h => by
    have h0 := h
    rw [List.pairwise_cons] at h
    unfold gD
    split
    · rename_i hx
      rw [List.pairwise_cons]
      refine ⟨fun s hs => ?_, vS r t h.2⟩
      rcases (pL r t s).1 hs with rfl | hs
      · exact hx
      · exact h.1 s hs
    · split
      · exact h0
      · rename_i h1 h2
        rw [List.pairwise_cons]
        have h3 : cP t x < 0 := by have := oP x t; omega
        refine ⟨fun s hs => ?_, h0⟩
        rcases List.mem_cons.1 hs with rfl | hs
        · exact h3
        · have h4 := h.1 s hs
          rw [LW] at *
          omega
def yD (l : List Tm) (t : Tm) : Bool := l.all fun x => decide (cP x t = 0) || !leT x t
theorem HT (l : List Tm) (t : Tm) : yD l t = true ↔ ∀ x ∈ l, leT x t = true → x = t := by
  unfold yD
  rw [List.all_eq_true]
  constructor
  · intro h x hx hl
    have := h x hx
    rw [hl] at this
    simp at this
    exact (gN x t).1 this
  · intro h x hx
    cases hl : leT x t with
    | false => simp
    | true => simp [(gN x t).2 (h x hx hl)]
def pM (l : List Tm) : List Tm → List Tm → List Tm
  | out, [] => out
  | out, t :: r => pM l (if yD l t = true then gD out t else out) r
theorem jI (l : List Tm) : ∀ (r out : List Tm), out.Pairwise (fun x y => cP x y < 0) → (pM l out r).Pairwise (fun x y => cP x y < 0) ∧ ∀ t, t ∈ pM l out r ↔ t ∈ out ∨ (t ∈ r ∧ yD l t = true)
  | [], out, h => ⟨h, fun t => by simp [pM]⟩
  | x :: r, out, h => by
    unfold pM
    by_cases hm : yD l x = true
    · rw [if_pos hm]
      obtain ⟨h1, h2⟩ := jI l r (gD out x) (vS out x h)
      refine ⟨h1, fun t => ?_⟩
      rw [h2 t, pL, List.mem_cons]
      constructor
      · rintro ((rfl | h3) | ⟨h3, h4⟩)
        · exact .inr ⟨.inl rfl, hm⟩
        · exact .inl h3
        · exact .inr ⟨.inr h3, h4⟩
      · rintro (h3 | ⟨rfl | h3, h4⟩)
        · exact .inl (.inr h3)
        · exact .inl (.inl rfl)
        · exact .inr ⟨h3, h4⟩
    · rw [if_neg hm]
      obtain ⟨h1, h2⟩ := jI l r out h
      refine ⟨h1, fun t => ?_⟩
      rw [h2 t, List.mem_cons]
      constructor
      · rintro (h3 | ⟨h3, h4⟩)
        · exact .inl h3
        · exact .inr ⟨.inr h3, h4⟩
      · rintro (h3 | ⟨rfl | h3, h4⟩)
        · exact .inl h3
        · exact absurd h4 hm
        · exact .inr ⟨h3, h4⟩
theorem xT (l : List Tm) : pM l [] l = mV l := by
  obtain ⟨h1, h2⟩ := jI l l [] List.Pairwise.nil
  refine Least.uniq (P := fun t => t ∈ l) ⟨h1, fun t => ?_⟩ (xR l).toLeast
  rw [h2 t, HT]
  simp
theorem HU (l : List Tm) (t : Tm) : (gD l t).length ≤ l.length + 1 := by
  induction l with
  | nil => simp [gD]
  | cons x r ih =>
    unfold gD
    split
    · simpa using ih
    · split <;> simp
end Go.Eng
end
section
set_option linter.unusedVariables false
set_option linter.unusedSimpArgs false
set_option maxRecDepth 10000
namespace Go.Eng
open Go Go.Proofs
def VJ : AFn := ⟨22, 2, [.cell 4 true 2], (.seq (.ops [oo 2 (.box 2 (.t 0)), oo 3 (.box 2 (.t 1)), oo 4 (.alloc 2 (.agg [(.int .i64 0), (.int .i64 0)]))]) (.seq (.seq (.ops [oo 5 (.faddr 0 (.t 3)), oo 6 (.load false 1 (.t 5)), oo 7 (.faddr 0 (.t 2)), oo 8 (.load false 1 (.t 7)), oo 9 (.bin .gtr (.t 6) (.t 8))]) (.cond (.t 9) (.ops [oo 10 (.faddr 0 (.t 3)), oo 11 (.load false 1 (.t 10)), oo 12 (.faddr 0 (.t 2)), on (.store 1 (.t 12) (.t 11))]) .skip)) (.seq (.seq (.ops [oo 13 (.faddr 1 (.t 3)), oo 14 (.load false 1 (.t 13)), oo 15 (.faddr 1 (.t 2)), oo 16 (.load false 1 (.t 15)), oo 17 (.bin .gtr (.t 14) (.t 16))]) (.cond (.t 17) (.ops [oo 18 (.faddr 1 (.t 3)), oo 19 (.load false 1 (.t 18)), oo 20 (.faddr 1 (.t 2)), on (.store 1 (.t 20) (.t 19))]) .skip)) (.seq (.ops [oo 21 (.load true 2 (.t 2)), on (.store 2 (.t 4) (.t 21))]) .ret))))⟩
theorem WY : aD Tryz.prog 108 = some VJ := by kernel_rfl
theorem DN (a b : Tm) (H : AH) : aC Tryz.prog 108 [aQ a, aQ b] H fun r H' => r = aQ (fR a b) ∧ H' = H := by
  refine aG WY (fun _ => rfl) (by simp [VJ]) ?_
  unfold VJ aQ fR
  by_cases h1 : b.f0 > a.f0
  · by_cases h2 : b.f1 > a.f1
    · simp only [push_cast, ↓reduceIte, Nat.reduceEqDiff, reduceCtorEq, Nat.reduceAdd, Nat.reduceLT, Nat.reduceLeDiff, aB, aA, h1, h2, decide_true]
      (repeat (first | exact List.prefix_refl _ | refine List.IsPrefix.trans ?_ (List.prefix_append _ _)))
    · simp only [push_cast, ↓reduceIte, Nat.reduceEqDiff, reduceCtorEq, Nat.reduceAdd, Nat.reduceLT, Nat.reduceLeDiff, aB, aA, h1, h2, decide_true, decide_false]
      (repeat (first | exact List.prefix_refl _ | refine List.IsPrefix.trans ?_ (List.prefix_append _ _)))
  · by_cases h2 : b.f1 > a.f1
    · simp only [push_cast, ↓reduceIte, Nat.reduceEqDiff, reduceCtorEq, Nat.reduceAdd, Nat.reduceLT, Nat.reduceLeDiff, aB, aA, h1, h2, decide_true, decide_false]
      (repeat (first | exact List.prefix_refl _ | refine List.IsPrefix.trans ?_ (List.prefix_append _ _)))
    · simp only [push_cast, ↓reduceIte, Nat.reduceEqDiff, reduceCtorEq, Nat.reduceAdd, Nat.reduceLT, Nat.reduceLeDiff, aB, aA, h1, h2, decide_false]
      (repeat (first | exact List.prefix_refl _ | refine List.IsPrefix.trans ?_ (List.prefix_append _ _)))
def VK : AFn := ⟨22, 2, [.cell 4 true 2], (.seq (.ops [oo 2 (.box 2 (.t 0)), oo 3 (.box 2 (.t 1)), oo 4 (.alloc 2 (.agg [(.int .i64 0), (.int .i64 0)]))]) (.seq (.seq (.ops [oo 5 (.faddr 0 (.t 3)), oo 6 (.load false 1 (.t 5)), oo 7 (.faddr 0 (.t 2)), oo 8 (.load false 1 (.t 7)), oo 9 (.bin .lss (.t 6) (.t 8))]) (.cond (.t 9) (.ops [oo 10 (.faddr 0 (.t 3)), oo 11 (.load false 1 (.t 10)), oo 12 (.faddr 0 (.t 2)), on (.store 1 (.t 12) (.t 11))]) .skip)) (.seq (.seq (.ops [oo 13 (.faddr 1 (.t 3)), oo 14 (.load false 1 (.t 13)), oo 15 (.faddr 1 (.t 2)), oo 16 (.load false 1 (.t 15)), oo 17 (.bin .lss (.t 14) (.t 16))]) (.cond (.t 17) (.ops [oo 18 (.faddr 1 (.t 3)), oo 19 (.load false 1 (.t 18)), oo 20 (.faddr 1 (.t 2)), on (.store 1 (.t 20) (.t 19))]) .skip)) (.seq (.ops [oo 21 (.load true 2 (.t 2)), on (.store 2 (.t 4) (.t 21))]) .ret))))⟩
theorem WZ : aD Tryz.prog 109 = some VK := by kernel_rfl
theorem DP (a b : Tm) (H : AH) : aC Tryz.prog 109 [aQ a, aQ b] H fun r H' => r = aQ (jV a b) ∧ H' = H := by
  refine aG WZ (fun _ => rfl) (by simp [VK]) ?_
  unfold VK aQ jV
  by_cases h1 : b.f0 < a.f0
  · by_cases h2 : b.f1 < a.f1
    · simp only [push_cast, ↓reduceIte, Nat.reduceEqDiff, reduceCtorEq, Nat.reduceAdd, Nat.reduceLT, Nat.reduceLeDiff, aB, aA, h1, h2, decide_true]
      (repeat (first | exact List.prefix_refl _ | refine List.IsPrefix.trans ?_ (List.prefix_append _ _)))
    · simp only [push_cast, ↓reduceIte, Nat.reduceEqDiff, reduceCtorEq, Nat.reduceAdd, Nat.reduceLT, Nat.reduceLeDiff, aB, aA, h1, h2, decide_true, decide_false]
      (repeat (first | exact List.prefix_refl _ | refine List.IsPrefix.trans ?_ (List.prefix_append _ _)))
  · by_cases h2 : b.f1 < a.f1
    · simp only [push_cast, ↓reduceIte, Nat.reduceEqDiff, reduceCtorEq, Nat.reduceAdd, Nat.reduceLT, Nat.reduceLeDiff, aB, aA, h1, h2, decide_true, decide_false]
      (repeat (first | exact List.prefix_refl _ | refine List.IsPrefix.trans ?_ (List.prefix_append _ _)))
    · simp only [push_cast, ↓reduceIte, Nat.reduceEqDiff, reduceCtorEq, Nat.reduceAdd, Nat.reduceLT, Nat.reduceLeDiff, aB, aA, h1, h2, decide_false]
      (repeat (first | exact List.prefix_refl _ | refine List.IsPrefix.trans ?_ (List.prefix_append _ _)))
def VL : AFn := ⟨17, 2, [.t 4], (.seq (.ops [oo 2 (.box 2 (.t 0)), oo 3 (.box 2 (.t 1)), oo 4 (.mov (.v (.bool false)))]) (.seq (.ops [oo 5 (.faddr 0 (.t 2)), oo 6 (.load false 1 (.t 5)), oo 7 (.faddr 0 (.t 3)), oo 8 (.load false 1 (.t 7)), oo 9 (.bin .leq (.t 6) (.t 8)), oo 10 (.mov (.t 9)), og 11 10 true (.faddr 1 (.t 2)), og 12 10 true (.load false 1 (.t 11)), og 13 10 true (.faddr 1 (.t 3)), og 14 10 true (.load false 1 (.t 13)), og 15 10 true (.bin .leq (.t 12) (.t 14)), oo 16 (.pick (.t 10) (.t 15) (.v (.bool false))), oo 4 (.mov (.t 16))]) .ret))⟩
theorem XA : aD Tryz.prog 106 = some VL := by kernel_rfl
theorem NH (a b : Tm) (H : AH) : aC Tryz.prog 106 [aQ a, aQ b] H fun r H' => r = .bool (leT a b) ∧ H' = H := by
  refine aG XA (fun _ => rfl) (by simp [VL]) ?_
  unfold VL aQ leT
  by_cases h1 : a.f0 ≤ b.f0
  · simp only [push_cast, ↓reduceIte, Nat.reduceEqDiff, reduceCtorEq, Nat.reduceAdd, Nat.reduceLT, Nat.reduceLeDiff, aB, aA, h1, decide_true, true_and]
    (repeat (first | exact List.prefix_refl _ | refine List.IsPrefix.trans ?_ (List.prefix_append _ _)))
  · simp only [push_cast, ↓reduceIte, Nat.reduceEqDiff, reduceCtorEq, Nat.reduceAdd, Nat.reduceLT, Nat.reduceLeDiff, aB, aA, h1, decide_false, false_and]
    (repeat (first | exact List.prefix_refl _ | refine List.IsPrefix.trans ?_ (List.prefix_append _ _)))
def RU (t : Tm) : Int := if t.f0 < 0 ∨ t.f0 > 1099511627776 ∨ t.f1 < 0 ∨ t.f1 > 1099511627776 then 7 else 0
def F84 : AFn := ⟨21, 1, [.t 2], (.seq (.ops [oo 1 (.box 2 (.t 0)), oo 2 (.mov (.v (.int .i64 0)))]) (.seq (.seq (.ops [oo 3 (.faddr 0 (.t 1)), oo 4 (.load false 1 (.t 3)), oo 5 (.bin .lss (.t 4) (.v (.int .i64 0))), oo 6 (.mov (.t 5)), og 7 6 false (.faddr 0 (.t 1)), og 8 6 false (.load false 1 (.t 7)), og 9 6 false (.bin .gtr (.t 8) (.v (.int .i64 1099511627776))), oo 10 (.pick (.t 6) (.v (.bool true)) (.t 9)), oo 11 (.mov (.t 10)), og 12 11 false (.faddr 1 (.t 1)), og 13 11 false (.load false 1 (.t 12)), og 14 11 false (.bin .lss (.t 13) (.v (.int .i64 0))), oo 15 (.pick (.t 11) (.v (.bool true)) (.t 14)), oo 16 (.mov (.t 15)), og 17 16 false (.faddr 1 (.t 1)), og 18 16 false (.load false 1 (.t 17)), og 19 16 false (.bin .gtr (.t 18) (.v (.int .i64 1099511627776))), oo 20 (.pick (.t 16) (.v (.bool true)) (.t 19))]) (.cond (.t 20) (.seq (.ops [oo 2 (.mov (.v (.int .i64 7)))]) .ret) .skip)) (.seq (.ops [oo 2 (.mov (.v (.int .i64 0)))]) .ret)))⟩
theorem c84 : aD Tryz.prog 84 = some F84 := by kernel_rfl
theorem JU (t : Tm) (H : AH) : aC Tryz.prog 84 [aQ t] H fun r H' => r = .int .i64 (RU t) ∧ H' = H := by
  refine aG c84 (fun _ => rfl) (by simp [F84]) ?_
  unfold F84 aQ RU
  by_cases h1 : t.f0 < 0
  · simp only [push_cast, ↓reduceIte, Nat.reduceEqDiff, reduceCtorEq, Nat.reduceAdd, Nat.reduceLT, Nat.reduceLeDiff, aB, aA, h1, decide_true, true_or]
    (repeat (first | exact List.prefix_refl _ | refine List.IsPrefix.trans ?_ (List.prefix_append _ _)))
  · by_cases h2 : t.f0 > 1099511627776
    · simp only [push_cast, ↓reduceIte, Nat.reduceEqDiff, reduceCtorEq, Nat.reduceAdd, Nat.reduceLT, Nat.reduceLeDiff, aB, aA, h1, h2, decide_true, decide_false, true_or, or_true, false_or]
      (repeat (first | exact List.prefix_refl _ | refine List.IsPrefix.trans ?_ (List.prefix_append _ _)))
    · by_cases h3 : t.f1 < 0
      · simp only [push_cast, ↓reduceIte, Nat.reduceEqDiff, reduceCtorEq, Nat.reduceAdd, Nat.reduceLT, Nat.reduceLeDiff, aB, aA, h1, h2, h3, decide_true, decide_false, true_or, or_true, false_or]
        (repeat (first | exact List.prefix_refl _ | refine List.IsPrefix.trans ?_ (List.prefix_append _ _)))
      · by_cases h4 : t.f1 > 1099511627776
        · simp only [push_cast, ↓reduceIte, Nat.reduceEqDiff, reduceCtorEq, Nat.reduceAdd, Nat.reduceLT, Nat.reduceLeDiff, aB, aA, h1, h2, h3, h4, decide_true, decide_false, true_or, or_true, false_or]
          (repeat (first | exact List.prefix_refl _ | refine List.IsPrefix.trans ?_ (List.prefix_append _ _)))
        · simp only [push_cast, ↓reduceIte, Nat.reduceEqDiff, reduceCtorEq, Nat.reduceAdd, Nat.reduceLT, Nat.reduceLeDiff, aB, aA, h1, h2, h3, h4, decide_true, decide_false, true_or, or_true, false_or]
          (repeat (first | exact List.prefix_refl _ | refine List.IsPrefix.trans ?_ (List.prefix_append _ _)))
theorem uI (t : Tm) : RU t = okT t := by
  unfold RU okT
  by_cases h1 : t.f0 < 0 <;> by_cases h2 : t.f0 > 1099511627776 <;> by_cases h3 : t.f1 < 0 <;> by_cases h4 : t.f1 > 1099511627776 <;> (repeat' split) <;> first | rfl | omega
def F19 : AFn := ⟨26, 2, [.t 4], (.seq (.ops [oo 4 (.mov (.v (.bool false)))]) (.seq (.seq (.ops [oo 6 (.mov (.t 0)), oo 7 (.len (.t 6)), oo 8 (.mov (.t 1)), oo 9 (.len (.t 8)), oo 10 (.bin .neq (.t 7) (.t 9))]) (.cond (.t 10) (.seq (.ops [oo 4 (.mov (.v (.bool false)))]) .ret) .skip)) (.seq (.seq (.ops [oo 5 (.mov (.v (.int .i64 0)))]) (.block 0 (.loop (.seq (.seq (.ops [oo 11 (.mov (.t 5)), oo 12 (.mov (.t 0)), oo 13 (.len (.t 12)), oo 14 (.bin .lss (.t 11) (.t 13))]) (.cond (.t 14) .skip (.exit 0))) (.seq (.block 1 (.seq (.ops [oo 26 (.mov (.t 0)), oo 27 (.mov (.t 5)), oo 28 (.iaddr 2 (.t 26) (.t 27)), oo 29 (.load true 2 (.t 28)), oo 30 (.mov (.t 1)), oo 31 (.mov (.t 5)), oo 32 (.iaddr 2 (.t 30) (.t 31)), oo 33 (.load true 2 (.t 32)), oo 34 (.eqa true [0, 0] (.t 29) (.t 33)), oo 17 (.mov (.t 26)), oo 18 (.mov (.t 27)), oo 19 (.mov (.t 28)), oo 20 (.mov (.t 29)), oo 21 (.mov (.t 30)), oo 22 (.mov (.t 31)), oo 23 (.mov (.t 32)), oo 24 (.mov (.t 33)), oo 25 (.mov (.t 34))]) (.cond (.t 25) (.seq (.ops [oo 4 (.mov (.v (.bool false)))]) .ret) .skip))) (.ops [oo 15 (.mov (.t 5)), oo 16 (.bin .add (.t 15) (.v (.int .i64 1))), oo 5 (.mov (.t 16))])))))) (.seq (.ops [oo 4 (.mov (.v (.bool true)))]) .ret))))⟩
theorem c19 : aD Tryz.prog 19 = some F19 := by kernel_rfl
theorem NI (x y : AV) (a b : List Tm) (H : AH) (hx : elems 2 x H = some (a.map aQ)) (hy : elems 2 y H = some (b.map aQ)) (ha : b.length < 1099511627776) : aC Tryz.prog 19 [x, y] H fun r H' => r = .bool (decide (a = b)) ∧ H' = H := by
  refine aG c19 (fun _ => rfl) (by simp [F19]) ?_
  unfold F19
  have la := aL hx
  have lb := aL hy
  rw [List.length_map] at la lb
  by_cases hab : a.length = b.length
  · rw [hab] at la
    have hz : ¬ ((b.length : Int) ≠ b.length) := by omega
    simp only [push_cast, ↓reduceIte, Nat.reduceEqDiff, reduceCtorEq, Nat.reduceAdd, Nat.reduceLT, Nat.reduceLeDiff, la, lb]
    refine aI (fun (i : Nat) f H' => H' = H ∧ i ≤ b.length ∧ f 5 = .int .i64 i ∧ f 0 = x ∧ f 1 = y ∧ (a = b ↔ a.drop i = b.drop i)) (fun i => b.length - i) 0 ⟨rfl, Nat.zero_le _, rfl, rfl, rfl, Iff.rfl⟩ ?_
    rintro i f H' ⟨rfl, h1, e5, e0, e1, ho⟩
    by_cases hi : i < b.length
    · have hi' : (i : Int) < b.length := by omega
      have hi2 : i < a.length := by omega
      have ax : aF 2 x (.int .i64 (i : Int)) = some (ptk x i 0) := aK hx (by rw [List.length_map]; exact hi2) _
      have ay : aF 2 y (.int .i64 (i : Int)) = some (ptk y i 0) := aK hy (by rw [List.length_map]; exact hi) _
      have lx : (a.map aQ)[i]? = some (aQ a[i]) := by simp [hi2]
      have ly : (b.map aQ)[i]? = some (aQ b[i]) := by simp [hi]
      rw [List.drop_eq_getElem_cons hi2, List.drop_eq_getElem_cons hi] at ho
      generalize a[i] = s at lx ho
      generalize b[i] = t at ly ho
      simp only [push_cast, ↓reduceIte, Nat.reduceEqDiff, reduceCtorEq, Nat.reduceAdd, Nat.reduceLT, Nat.reduceLeDiff, aB, aA, e5, e0, e1, la, hi', ax, ay, aO hx lx, aO hy ly, List.prefix_refl, aQ]
      rw [rC]
      by_cases hst : s = t
      · rw [decide_eq_true hst]
        simp only [push_cast, ↓reduceIte, Nat.reduceEqDiff, reduceCtorEq, Nat.reduceAdd, Nat.reduceLT, Nat.reduceLeDiff, e5, e0, e1]
        refine ⟨i + 1, ⟨hi, ?_, ?_⟩, by omega⟩
        · rw [aE (by omega) (by omega)]; simp
        · rw [ho, hst]; simp
      · rw [decide_eq_false hst]
        have hb : (false != true) = true := rfl
        simp only [push_cast, ↓reduceIte, Nat.reduceEqDiff, reduceCtorEq, Nat.reduceAdd, Nat.reduceLT, Nat.reduceLeDiff, e5, e0, e1, hb]
        exact ⟨List.prefix_refl _, by rw [decide_eq_false (fun h => hst (List.cons.inj (ho.1 h)).1)]⟩
    · have hi' : ¬ (i : Int) < b.length := by omega
      simp only [push_cast, ↓reduceIte, Nat.reduceEqDiff, reduceCtorEq, Nat.reduceAdd, Nat.reduceLT, Nat.reduceLeDiff, e5, e0, la, hi']
      rw [List.drop_eq_nil_of_le (by omega : a.length ≤ i), List.drop_eq_nil_of_le (by omega : b.length ≤ i)] at ho
      exact ⟨List.prefix_refl _, by rw [decide_eq_true (ho.2 rfl)]⟩
  · have hz : ((a.length : Int) ≠ b.length) := by omega
    simp only [push_cast, ↓reduceIte, Nat.reduceEqDiff, reduceCtorEq, Nat.reduceAdd, Nat.reduceLT, Nat.reduceLeDiff, la, lb, hz]
    exact ⟨List.prefix_refl _, by rw [decide_eq_false (fun h => hab (by rw [h]))]⟩
theorem DQ {l : List Tm} {t : Tm} {i : Nat} (hi : i < l.length) (h : cP l[i] t < 0) (e : gD l t = l.take i ++ gD (l.drop i) t) : gD l t = l.take (i + 1) ++ gD (l.drop (i + 1)) t := by
  rw [e, List.drop_eq_getElem_cons hi, gD, if_pos h, ← List.take_append_getElem hi, List.append_assoc]
  rfl
theorem HV {l : List Tm} {t : Tm} {i : Nat} (hi : i < l.length) (h : l[i] = t) (e : gD l t = l.take i ++ gD (l.drop i) t) : gD l t = l := by
  have hr : cP l[i] t = 0 := (gN _ _).2 h
  rw [e, List.drop_eq_getElem_cons hi, gD, if_neg (by omega), if_pos hr]
  rw [← List.drop_eq_getElem_cons hi, List.take_append_drop]
theorem HW {l : List Tm} {t : Tm} {i : Nat} (hi : i < l.length) (h : ¬ cP l[i] t < 0) (h2 : ¬ l[i] = t) (e : gD l t = l.take i ++ gD (l.drop i) t) : gD l t = l.take i ++ [t] ++ l.drop i := by
  have hr : ¬ cP l[i] t = 0 := fun q => h2 ((gN _ _).1 q)
  rw [e, List.drop_eq_getElem_cons hi, gD, if_neg h, if_neg hr]
  simp
theorem HX {l : List Tm} {t : Tm} {i : Nat} (hi : l.length ≤ i) (e : gD l t = l.take i ++ gD (l.drop i) t) : gD l t = l.take i ++ [t] ++ l.drop i := by
  rw [e, List.drop_eq_nil_of_le hi]
  simp [gD]
def VM : AFn := ⟨49, 2, [.t 4], (.seq (.ops [oo 3 (.box 2 (.t 1)), oo 4 (.mov (.v .nils))]) (.seq (.ops [oo 5 (.mov (.v (.int .i64 0)))]) (.seq (.block 0 (.loop (.seq (.seq (.ops [oo 49 (.mov (.t 5)), oo 50 (.mov (.t 0)), oo 51 (.len (.t 50)), oo 52 (.bin .lss (.t 49) (.t 51)), oo 53 (.mov (.t 52)), og 54 53 true (.mov (.t 0)), og 55 53 true (.mov (.t 5)), og 56 53 true (.iaddr 2 (.t 54) (.t 55)), og 57 53 true (.load true 2 (.t 56)), og 58 53 true (.load true 2 (.t 3)), og 59 53 true (.call 88 [(.t 57), (.t 58)]), og 60 53 true (.bin .lss (.t 59) (.v (.int .i64 0))), oo 61 (.pick (.t 53) (.t 60) (.v (.bool false))), oo 7 (.mov (.t 49)), oo 8 (.mov (.t 50)), oo 9 (.mov (.t 51)), oo 10 (.mov (.t 52)), oo 11 (.mov (.t 53)), oo 12 (.mov (.t 54)), oo 13 (.mov (.t 55)), oo 14 (.mov (.t 56)), oo 15 (.mov (.t 57)), oo 16 (.mov (.t 58)), oo 17 (.mov (.t 59)), oo 18 (.mov (.t 60)), oo 19 (.mov (.t 61))]) (.cond (.t 19) .skip (.exit 0))) (.block 1 (.ops [oo 20 (.mov (.t 5)), oo 21 (.bin .add (.t 20) (.v (.int .i64 1))), oo 5 (.mov (.t 21))]))))) (.seq (.seq (.ops [oo 49 (.mov (.t 5)), oo 50 (.mov (.t 0)), oo 51 (.len (.t 50)), oo 52 (.bin .lss (.t 49) (.t 51)), oo 53 (.mov (.t 52)), og 54 53 true (.mov (.t 0)), og 55 53 true (.mov (.t 5)), og 56 53 true (.iaddr 2 (.t 54) (.t 55)), og 57 53 true (.load true 2 (.t 56)), og 58 53 true (.load true 2 (.t 3)), og 59 53 true (.eqa false [0, 0] (.t 57) (.t 58)), oo 60 (.pick (.t 53) (.t 59) (.v (.bool false))), oo 22 (.mov (.t 49)), oo 23 (.mov (.t 50)), oo 24 (.mov (.t 51)), oo 25 (.mov (.t 52)), oo 26 (.mov (.t 53)), oo 27 (.mov (.t 54)), oo 28 (.mov (.t 55)), oo 29 (.mov (.t 56)), oo 30 (.mov (.t 57)), oo 31 (.mov (.t 58)), oo 32 (.mov (.t 59)), oo 33 (.mov (.t 60))]) (.cond (.t 33) (.seq (.ops [oo 34 (.mov (.t 0)), oo 4 (.mov (.t 34))]) .ret) .skip)) (.seq (.ops [oo 35 (.bsl 2 0 (.agg [(.int .i64 0), (.int .i64 0)]) []), oo 36 (.mov (.t 0)), oo 37 (.mov (.t 5)), oo 38 (.slice 2 (.t 36) none (some (.t 37)) none), oo 39 (.app 2 16 (.t 35) (.t 38)), oo 6 (.mov (.t 39))]) (.seq (.ops [oo 40 (.mov (.t 6)), oo 41 (.load true 2 (.t 3)), oo 42 (.bsl 2 1 (.agg [(.int .i64 0), (.int .i64 0)]) [(0, (.t 41))]), oo 43 (.app 2 16 (.t 40) (.t 42)), oo 6 (.mov (.t 43))]) (.seq (.ops [oo 44 (.mov (.t 6)), oo 45 (.mov (.t 0)), oo 46 (.mov (.t 5)), oo 47 (.slice 2 (.t 45) (some (.t 46)) none none), oo 48 (.app 2 16 (.t 44) (.t 47)), oo 4 (.mov (.t 48))]) .ret)))))))⟩
theorem XB : aD Tryz.prog 107 = some VM := by kernel_rfl
theorem RV (l : List Tm) (t : Tm) (H : AH) (hl : l.length < 1099511627776) : aC Tryz.prog 107 [eJ l, aQ t] H fun r H' => r = eJ (gD l t) ∧ H' = H := by
  refine aW XB (v := eJ (gD l t)) (fun n => mG (SX n) _) (by simp [VM]) ?_
  unfold VM
  have hx : elems 2 (eJ l) H = some (l.map aQ) := rfl
  have la := aL hx
  rw [List.length_map] at la
  simp only [push_cast, ↓reduceIte, Nat.reduceEqDiff, reduceCtorEq, Nat.reduceAdd, Nat.reduceLT, Nat.reduceLeDiff, aB, aA, aQ]
  refine aI (fun (i : Nat) f H' => H' = H ++ [aR.live 2 [aQ t]] ∧ i ≤ l.length ∧ f 0 = eJ l ∧ f 3 = .ptr H.length 0 0 ∧ f 5 = .int .i64 i ∧ gD l t = l.take i ++ gD (l.drop i) t) (fun i => l.length - i) 0 ⟨rfl, Nat.zero_le _, rfl, rfl, rfl, rfl⟩ ?_
  rintro i f H' ⟨rfl, h1, e0, e3, e5, hs⟩
  have ob : obj? (H ++ [aR.live 2 [aQ t]]) H.length = some (2, [aQ t]) := bA _ _ _
  have pt : part true 2 0 (aQ t) = some (aQ t) := rfl
  have ps : ∀ s, part true 2 0 (aQ s) = some (aQ s) := fun _ => rfl
  have p2 : ∀ s, part true 2 0 (aQ s) = some (.agg [.int .i64 s.f0, .int .i64 s.f1]) := fun _ => rfl
  have hb : ∀ n : Nat, n ≤ l.length → (n + 1) * 16 ≤ 140737488355328 := fun n h => by omega
  have hnil : Own (H ++ [aR.live 2 [aQ t]]) (H ++ [aR.live 2 [aQ t]] ++ [aR.live 2 []]) 2 (.ref 2 (H.length + 1) 0 0 0 true) [] := .inr ⟨_, true, by simp, rfl, fO (by simp)⟩
  have hpx : H ++ [aR.live 2 [aQ t]] <+: H ++ [aR.live 2 [aQ t]] ++ [aR.live 2 []] := aN (List.prefix_refl _)
  by_cases hi : i < l.length
  · have hi' : (i : Int) < l.length := by omega
    have ax : aF 2 (eJ l) (.int .i64 (i : Int)) = some (.lptr 2 (l.map aQ) i 0) := cM (by rw [List.length_map]; exact hi) _
    have lx : (l.map aQ)[i]? = some (aQ l[i]) := by simp [hi]
    have q := rC l[i] t
    by_cases hc : cP l[i] t < 0
    · simp only [push_cast, ↓reduceIte, Nat.reduceEqDiff, reduceCtorEq, Nat.reduceAdd, Nat.reduceLT, Nat.reduceLeDiff, aB, aA, e0, e3, e5, la, hi', ax, lx, ob, p2]
      (refine aC.look (kG l[i] t _) ?_; simp only [push_cast, ↓reduceIte, Nat.reduceEqDiff, reduceCtorEq, Nat.reduceAdd, Nat.reduceLT, Nat.reduceLeDiff, aB, aA, e0, e3, e5, la, hi', ax, lx, ob, p2, hc, decide_true])
      refine ⟨i + 1, ⟨hi, ?_, DQ hi hc hs⟩, by omega⟩
      rw [aE (by omega) (by omega)]; simp
    · by_cases he : l[i] = t
      · rw [decide_eq_true he] at q
        rw [HV hi he hs]
        simp only [push_cast, ↓reduceIte, Nat.reduceEqDiff, reduceCtorEq, Nat.reduceAdd, Nat.reduceLT, Nat.reduceLeDiff, aB, aA, e0, e3, e5, la, hi', ax, lx, ob, p2]
        (refine aC.look (kG l[i] t _) ?_; simp only [push_cast, ↓reduceIte, Nat.reduceEqDiff, reduceCtorEq, Nat.reduceAdd, Nat.reduceLT, Nat.reduceLeDiff, aB, aA, e0, e3, e5, la, hi', ax, lx, ob, p2, hc, decide_false, q])
        exact ⟨_, bZ.refl _ _, aN (List.prefix_refl _)⟩
      · rw [decide_eq_false he] at q
        have hbb : (false != false) = false := rfl
        simp only [push_cast, ↓reduceIte, Nat.reduceEqDiff, reduceCtorEq, Nat.reduceAdd, Nat.reduceLT, Nat.reduceLeDiff, aB, aA, e0, e3, e5, la, hi', ax, lx, ob, p2]
        (refine aC.look (kG l[i] t _) ?_; simp only [push_cast, ↓reduceIte, Nat.reduceEqDiff, reduceCtorEq, Nat.reduceAdd, Nat.reduceLT, Nat.reduceLeDiff, aB, aA, e0, e3, e5, la, hi', ax, lx, ob, p2, hc, decide_false, q, hbb])
        rw [eJ, fS (k := i) (by rfl) (by rw [List.length_map]; exact h1)]
        simp only [push_cast, ↓reduceIte, Nat.reduceEqDiff, reduceCtorEq, Nat.reduceAdd, Nat.reduceLT, Nat.reduceLeDiff, e0, e3, e5]
        refine hnil.xapp (bytes := 16) hpx (xs := (l.map aQ).take i) rfl (by simp only [List.length_nil, List.length_take, List.length_map]; omega) fun v1 H1 ho hp1 => ?_
        have o1 : obj? H1 H.length = some (2, [aQ t]) := bB hp1 ob
        simp only [push_cast, ↓reduceIte, Nat.reduceEqDiff, reduceCtorEq, Nat.reduceAdd, Nat.reduceLT, Nat.reduceLeDiff, aB, aA, e0, e3, e5, o1, p2]
        refine ho.mono.xapp (bytes := 16) (aN hp1) (xs := [aQ t]) (bT (by simp)) (by simp only [List.length_append, List.length_nil, List.length_take, List.length_map, List.length_singleton]; omega) fun v2 H2 ho2 hp2 => ?_
        simp only [push_cast, ↓reduceIte, Nat.reduceEqDiff, reduceCtorEq, Nat.reduceAdd, Nat.reduceLT, Nat.reduceLeDiff, e0, e3, e5]
        rw [eJ, fT (k := i) (by rfl) (by rw [List.length_map]; exact h1)]
        simp only [push_cast, ↓reduceIte, Nat.reduceEqDiff, reduceCtorEq, Nat.reduceAdd, Nat.reduceLT, Nat.reduceLeDiff, e0, e3, e5]
        refine ho2.xapp (bytes := 16) hp2 (xs := (l.map aQ).drop i) rfl (by simp only [List.length_append, List.length_nil, List.length_take, List.length_drop, List.length_map, List.length_singleton]; omega) fun v3 H3 ho3 hp3 => ?_
        simp only [push_cast, ↓reduceIte, Nat.reduceEqDiff, reduceCtorEq, Nat.reduceAdd, Nat.reduceLT, Nat.reduceLeDiff, ]
        rw [HW hi hc he hs]
        rw [List.nil_append, ← List.map_take, ← List.map_drop] at ho3
        have ho4 : Own (H ++ [aR.live 2 [aQ t]]) H3 2 v3 ((l.take i ++ [t] ++ l.drop i).map aQ) := by simpa using ho3
        obtain ⟨H4, w1, w2⟩ := ho4.weak hp3
        exact ⟨H4, w1, (List.prefix_append _ _).trans w2⟩
  · have hi' : ¬ (i : Int) < l.length := by omega
    simp only [push_cast, ↓reduceIte, Nat.reduceEqDiff, reduceCtorEq, Nat.reduceAdd, Nat.reduceLT, Nat.reduceLeDiff, aB, aA, e0, e3, e5, la, hi', ob]
    rw [eJ, fS (k := i) (by rfl) (by rw [List.length_map]; exact h1)]
    simp only [push_cast, ↓reduceIte, Nat.reduceEqDiff, reduceCtorEq, Nat.reduceAdd, Nat.reduceLT, Nat.reduceLeDiff, e0, e3, e5]
    refine hnil.xapp (bytes := 16) hpx (xs := (l.map aQ).take i) rfl (by simp only [List.length_nil, List.length_take, List.length_map]; omega) fun v1 H1 ho hp1 => ?_
    have o1 : obj? H1 H.length = some (2, [aQ t]) := bB hp1 ob
    simp only [push_cast, ↓reduceIte, Nat.reduceEqDiff, reduceCtorEq, Nat.reduceAdd, Nat.reduceLT, Nat.reduceLeDiff, aB, aA, e0, e3, e5, o1, p2]
    refine ho.mono.xapp (bytes := 16) (aN hp1) (xs := [aQ t]) (bT (by simp)) (by simp only [List.length_append, List.length_nil, List.length_take, List.length_map, List.length_singleton]; omega) fun v2 H2 ho2 hp2 => ?_
    simp only [push_cast, ↓reduceIte, Nat.reduceEqDiff, reduceCtorEq, Nat.reduceAdd, Nat.reduceLT, Nat.reduceLeDiff, e0, e3, e5]
    rw [eJ, fT (k := i) (by rfl) (by rw [List.length_map]; exact h1)]
    simp only [push_cast, ↓reduceIte, Nat.reduceEqDiff, reduceCtorEq, Nat.reduceAdd, Nat.reduceLT, Nat.reduceLeDiff, e0, e3, e5]
    refine ho2.xapp (bytes := 16) hp2 (xs := (l.map aQ).drop i) rfl (by simp only [List.length_append, List.length_nil, List.length_take, List.length_drop, List.length_map, List.length_singleton]; omega) fun v3 H3 ho3 hp3 => ?_
    simp only [push_cast, ↓reduceIte, Nat.reduceEqDiff, reduceCtorEq, Nat.reduceAdd, Nat.reduceLT, Nat.reduceLeDiff, ]
    rw [HX (by omega) hs]
    rw [List.nil_append, ← List.map_take, ← List.map_drop] at ho3
    have ho4 : Own (H ++ [aR.live 2 [aQ t]]) H3 2 v3 ((l.take i ++ [t] ++ l.drop i).map aQ) := by simpa using ho3
    obtain ⟨H4, w1, w2⟩ := ho4.weak hp3
    exact ⟨H4, w1, (List.prefix_append _ _).trans w2⟩
end Go.Eng
end
section
set_option linter.unusedVariables false
set_option linter.unusedSimpArgs false
set_option maxRecDepth 10000
namespace Go.Eng
open Go Go.Proofs
theorem DR (l : List Tm) (t : Tm) {k : Nat} (hk : k < l.length) : yD (l.take (k + 1)) t = (yD (l.take k) t && (decide (l[k] = t) || !leT l[k] t)) := by
  rw [← List.take_append_getElem hk]
  unfold yD
  rw [List.all_append, List.all_cons, List.all_nil, Bool.and_true]
  congr 2
  exact decide_eq_decide.2 (gN _ _)
def DS : AC := (.block 2 (.loop (.seq (.seq (.ops [oo 13 (.mov (.t 6)), oo 14 (.mov (.t 0)), oo 15 (.len (.t 14)), oo 16 (.bin .lss (.t 13) (.t 15))]) (.cond (.t 16) .skip (.exit 2))) (.seq (.block 3 (.ops [oo 51 (.mov (.t 5)), oo 52 (.mov (.t 51)), og 53 52 true (.mov (.t 0)), og 54 52 true (.mov (.t 6)), og 55 52 true (.iaddr 2 (.t 53) (.t 54)), og 56 52 true (.load true 2 (.t 55)), og 57 52 true (.mov (.t 0)), og 58 52 true (.mov (.t 4)), og 59 52 true (.iaddr 2 (.t 57) (.t 58)), og 60 52 true (.load true 2 (.t 59)), og 61 52 true (.eqa false [0, 0] (.t 56) (.t 60)), og 62 52 true (.mov (.t 61)), og 63 62 false (.mov (.t 0)), og 64 62 false (.mov (.t 6)), og 65 62 false (.iaddr 2 (.t 63) (.t 64)), og 66 62 false (.load true 2 (.t 65)), og 67 62 false (.mov (.t 0)), og 68 62 false (.mov (.t 4)), og 69 62 false (.iaddr 2 (.t 67) (.t 68)), og 70 62 false (.load true 2 (.t 69)), og 71 62 false (.call 106 [(.t 66), (.t 70)]), og 72 62 false (.un .not (.t 71)), og 73 52 true (.pick (.t 62) (.v (.bool true)) (.t 72)), oo 74 (.pick (.t 52) (.t 73) (.v (.bool false))), oo 75 (.mov (.t 74)), oo 19 (.mov (.t 51)), oo 20 (.mov (.t 52)), oo 21 (.mov (.t 53)), oo 22 (.mov (.t 54)), oo 23 (.mov (.t 55)), oo 24 (.mov (.t 56)), oo 25 (.mov (.t 57)), oo 26 (.mov (.t 58)), oo 27 (.mov (.t 59)), oo 28 (.mov (.t 60)), oo 29 (.mov (.t 61)), oo 30 (.mov (.t 62)), oo 31 (.mov (.t 63)), oo 32 (.mov (.t 64)), oo 33 (.mov (.t 65)), oo 34 (.mov (.t 66)), oo 35 (.mov (.t 67)), oo 36 (.mov (.t 68)), oo 37 (.mov (.t 69)), oo 38 (.mov (.t 70)), oo 39 (.mov (.t 71)), oo 40 (.mov (.t 72)), oo 41 (.mov (.t 73)), oo 42 (.mov (.t 74)), oo 5 (.mov (.t 75))])) (.ops [oo 17 (.mov (.t 6)), oo 18 (.bin .add (.t 17) (.v (.int .i64 1))), oo 6 (.mov (.t 18))])))))
def RW : AC := (.block 0 (.loop (.seq (.seq (.ops [oo 7 (.mov (.t 4)), oo 8 (.mov (.t 0)), oo 9 (.len (.t 8)), oo 10 (.bin .lss (.t 7) (.t 9))]) (.cond (.t 10) .skip (.exit 0))) (.seq (.block 1 (.seq (.ops [oo 5 (.mov (.v (.bool true)))]) (.seq (.seq (.ops [oo 6 (.mov (.v (.int .i64 0)))]) (DS)) (.seq (.ops [oo 43 (.mov (.t 5))]) (.cond (.t 43) (.ops [oo 44 (.mov (.t 3)), oo 45 (.mov (.t 0)), oo 46 (.mov (.t 4)), oo 47 (.iaddr 2 (.t 45) (.t 46)), oo 48 (.load true 2 (.t 47)), oo 49 (.call 107 [(.t 44), (.t 48)]), oo 3 (.mov (.t 49))]) .skip))))) (.ops [oo 11 (.mov (.t 4)), oo 12 (.bin .add (.t 11) (.v (.int .i64 1))), oo 4 (.mov (.t 12))])))))
def F85 : AFn := ⟨51, 1, [.t 2], (.seq (.ops [oo 2 (.mov (.v .nils))]) (.seq (.ops [oo 3 (.mov (.v .nils))]) (.seq (.seq (.ops [oo 4 (.mov (.v (.int .i64 0)))]) (RW)) (.seq (.ops [oo 50 (.mov (.t 3)), oo 2 (.mov (.t 50))]) .ret))))⟩
theorem c85 : aD Tryz.prog 85 = some F85 := by kernel_rfl
theorem NJ {l : List Tm} {i : Nat} {x v : AV} {H : AH} {f : AF} {Q : AE → AF → AH → Prop} (hx : elems 2 x H = some (l.map aQ)) (hl : l.length < 1099511627776) (hi : i < l.length) (e0 : f 0 = x) (e3 : f 3 = v) (e4 : f 4 = .int .i64 i) (e5 : f 5 = .bool true) (e6 : f 6 = .int .i64 0)
    (hQ : ∀ f2, f2 0 = x → f2 3 = v → f2 4 = .int .i64 i → f2 5 = .bool (yD l l[i]) → Q .normal f2 H) : DS.wp Tryz.prog Q f H := by
  unfold DS
  have la := aL hx
  rw [List.length_map] at la
  have ax : ∀ k : Nat, k < l.length → aF 2 x (.int .i64 (k : Int)) = some (ptk x k 0) := fun k hk => aK hx (by rw [List.length_map]; exact hk) _
  have lx : ∀ k (hk : k < l.length), (l.map aQ)[k]? = some (aQ l[k]) := fun k hk => by simp [hk]
  have le : ∀ k (hk : k < l.length) (ag : Bool) (s c : Nat), cG ag s (ptk x k c) H = part ag s c (aQ l[k]) := fun k hk => aO hx (lx k hk) (List.prefix_refl H)
  have axi := ax i hi
  have lei := le i hi
  generalize l[i] = t at hQ lei
  simp only [push_cast, ↓reduceIte, Nat.reduceEqDiff, reduceCtorEq, Nat.reduceAdd, Nat.reduceLT, Nat.reduceLeDiff]
  refine aI (fun (k : Nat) f H' => H' = H ∧ k ≤ l.length ∧ f 0 = x ∧ f 3 = v ∧ f 4 = .int .i64 i ∧ f 5 = .bool (yD (l.take k) t) ∧ f 6 = .int .i64 k) (fun k => l.length - k) 0 ⟨rfl, Nat.zero_le _, e0, e3, e4, e5, e6⟩ ?_
  clear e0 e3 e4 e5 e6
  rintro k f H' ⟨hh, h1, e0, e3, e4, e5, e6⟩
  subst hh
  by_cases hk : k < l.length
  · have hk' : (k : Int) < l.length := by omega
    have w1 : IntKind.i64.wrap ((k : Int) + 1) = ((k + 1 : Nat) : Int) := by rw [aE (by omega) (by omega)]; omega
    have hm := DR l t hk
    have axk := ax k hk
    have lek := le k hk
    have p2 : ∀ s : Tm, part true 2 0 (aQ s) = some (.agg [.int .i64 s.f0, .int .i64 s.f1]) := fun _ => rfl
    cases hb : yD (l.take k) t with
    | false =>
      rw [hb] at e5 hm
      rw [Bool.false_and] at hm
      simp only [push_cast, ↓reduceIte, Nat.reduceEqDiff, reduceCtorEq, Nat.reduceAdd, Nat.reduceLT, Nat.reduceLeDiff, aB, aA, e0, e3, e4, e5, e6, la, hk']
      exact ⟨k + 1, ⟨hk, by rw [hm], by rw [w1]⟩, by omega⟩
    | true =>
      rw [hb] at e5 hm
      rw [Bool.true_and] at hm
      have q := rC l[k] t
      by_cases he : l[k] = t
      · rw [decide_eq_true he, Bool.true_or] at hm
        rw [decide_eq_true he] at q
        have hbb : (true != false) = true := rfl
        simp only [push_cast, ↓reduceIte, Nat.reduceEqDiff, reduceCtorEq, Nat.reduceAdd, Nat.reduceLT, Nat.reduceLeDiff, aB, aA, e0, e3, e4, e5, e6, la, hk', axk, axi, lek, lei, p2, q, hbb]
        exact ⟨k + 1, ⟨hk, by rw [hm], by rw [w1]⟩, by omega⟩
      · rw [decide_eq_false he, Bool.false_or] at hm
        rw [decide_eq_false he] at q
        have hbb : (false != false) = false := rfl
        simp only [push_cast, ↓reduceIte, Nat.reduceEqDiff, reduceCtorEq, Nat.reduceAdd, Nat.reduceLT, Nat.reduceLeDiff, aB, aA, e0, e3, e4, e5, e6, la, hk', axk, axi, lek, lei, p2, q, hbb]
        (refine aC.look (NH l[k] t _) ?_; simp only [push_cast, ↓reduceIte, Nat.reduceEqDiff, reduceCtorEq, Nat.reduceAdd, Nat.reduceLT, Nat.reduceLeDiff, aB, aA, e0, e3, e4, e5, e6])
        exact ⟨k + 1, ⟨hk, by rw [hm], by rw [w1]⟩, by omega⟩
  · have hk' : ¬ (k : Int) < l.length := by omega
    obtain rfl : k = l.length := by omega
    rw [List.take_length] at e5
    simp only [push_cast, ↓reduceIte, Nat.reduceEqDiff, reduceCtorEq, Nat.reduceAdd, Nat.reduceLT, Nat.reduceLeDiff, e0, e3, e4, e5, e6, la, hk']
    exact hQ _ e0 e3 e4 e5
def VT (v : AV) (l : List Tm) : Prop := v = eJ l ∨ (v = .nils ∧ l = [])
theorem VT.elems {v : AV} {l : List Tm} (h : VT v l) (H : AH) : elems 2 v H = some (l.map aQ) := by
  rcases h with rfl | ⟨rfl, rfl⟩ <;> rfl
theorem VT.weak {v : AV} {l : List Tm} (h : VT v l) (H : AH) : bZ H v H (eJ l) := by
  rcases h with rfl | ⟨rfl, rfl⟩
  · exact bZ.refl _ _
  · exact bZ.nils _ 2
theorem RX {v : AV} {l : List Tm} (h : VT v l) (t : Tm) (H : AH) (hl : l.length < 1099511627776) : aC Tryz.prog 107 [v, aQ t] H fun r H' => r = eJ (gD l t) ∧ H' = H :=
  aC.pre (bZ.tup (i := 0) (vs := [v, aQ t]) (h.weak H) rfl) (RV l t H hl)
theorem RY (x : AV) (l : List Tm) (H : AH) (hx : elems 2 x H = some (l.map aQ)) (hl : l.length < 1099511627776) : aC Tryz.prog 85 [x] H fun r H' => r = eJ (mV l) ∧ H' = H := by
  refine aW c85 (v := eJ (mV l)) (fun n => mG (SX n) _) (by simp [F85]) ?_
  unfold F85
  have la := aL hx
  rw [List.length_map] at la
  rw [← xT l]
  have ax : ∀ k : Nat, k < l.length → aF 2 x (.int .i64 (k : Int)) = some (ptk x k 0) := fun k hk => aK hx (by rw [List.length_map]; exact hk) _
  have lx : ∀ k (hk : k < l.length), (l.map aQ)[k]? = some (aQ l[k]) := fun k hk => by simp [hk]
  have le : ∀ k (hk : k < l.length) (ag : Bool) (s c : Nat), cG ag s (ptk x k c) H = part ag s c (aQ l[k]) := fun k hk => aO hx (lx k hk) (List.prefix_refl H)
  simp only [push_cast, ↓reduceIte, Nat.reduceEqDiff, reduceCtorEq, Nat.reduceAdd, Nat.reduceLT, Nat.reduceLeDiff]
  refine aI (fun (s : Nat × List Tm) f H' => H' = H ∧ s.1 ≤ l.length ∧ s.2.length ≤ s.1 ∧ f 0 = x ∧ (∃ v, f 3 = v ∧ VT v s.2) ∧ f 4 = .int .i64 s.1 ∧ pM l [] l = pM l s.2 (l.drop s.1)) (fun s => l.length - s.1) (0, []) ⟨rfl, Nat.zero_le _, Nat.le_refl _, rfl, ⟨.nils, rfl, .inr ⟨rfl, rfl⟩⟩, rfl, rfl⟩ ?_
  rintro ⟨i, out⟩ f H' ⟨hh, h1, h2, e0, ⟨v, e3, hv⟩, e4, hd⟩
  subst hh
  dsimp only at h1 h2 hv e4 hd
  by_cases hi : i < l.length
  · have hi' : (i : Int) < l.length := by omega
    have w1 : IntKind.i64.wrap ((i : Int) + 1) = ((i + 1 : Nat) : Int) := by rw [aE (by omega) (by omega)]; omega
    have p2 : ∀ s : Tm, part true 2 0 (aQ s) = some (aQ s) := fun _ => rfl
    rw [List.drop_eq_getElem_cons hi, pM] at hd
    simp only [push_cast, ↓reduceIte, Nat.reduceEqDiff, reduceCtorEq, Nat.reduceAdd, Nat.reduceLT, Nat.reduceLeDiff, e0, e3, e4, la, hi']
    refine NJ hx hl hi (by exact e0) (by exact e3) (by exact e4) (by rfl) (by rfl) fun f2 e0 e3 e4 e5 => ?_
    cases hm : yD l l[i] with
    | false =>
      rw [hm] at hd e5
      rw [if_neg (by decide)] at hd
      simp only [push_cast, ↓reduceIte, Nat.reduceEqDiff, reduceCtorEq, Nat.reduceAdd, Nat.reduceLT, Nat.reduceLeDiff, e0, e3, e4, e5]
      exact ⟨(i + 1, out), ⟨hi, by dsimp only; omega, ⟨v, rfl, hv⟩, by dsimp only; rw [w1], hd⟩, by dsimp only; omega⟩
    | true =>
      rw [hm] at hd e5
      rw [if_pos rfl] at hd
      have ha := HU out l[i]
      simp only [push_cast, ↓reduceIte, Nat.reduceEqDiff, reduceCtorEq, Nat.reduceAdd, Nat.reduceLT, Nat.reduceLeDiff, aB, aA, e0, e3, e4, e5, ax i hi, le i hi, p2]
      (refine aC.look (RX hv l[i] _ (by omega)) ?_; simp only [push_cast, ↓reduceIte, Nat.reduceEqDiff, reduceCtorEq, Nat.reduceAdd, Nat.reduceLT, Nat.reduceLeDiff, aB, aA, e0, e4])
      exact ⟨(i + 1, gD out l[i]), ⟨hi, by dsimp only; omega, ⟨_, rfl, .inl rfl⟩, by dsimp only; rw [w1], hd⟩, by dsimp only; omega⟩
  · have hi' : ¬ (i : Int) < l.length := by omega
    rw [List.drop_eq_nil_of_le (by omega)] at hd
    simp only [push_cast, ↓reduceIte, Nat.reduceEqDiff, reduceCtorEq, Nat.reduceAdd, Nat.reduceLT, Nat.reduceLeDiff, e0, e3, e4, la, hi']
    rw [hd]
    exact ⟨_, hv.weak _, List.prefix_refl _⟩
end Go.Eng
end
section
set_option linter.unusedVariables false
set_option linter.unusedSimpArgs false
set_option maxRecDepth 10000
namespace Go.Eng
open Go Go.Proofs
def F57 : AFn := ⟨24, 1, [.t 2], (.seq (.ops [oo 2 (.mov (.v (.int .i64 0)))]) (.seq (.seq (.ops [oo 4 (.mov (.t 0)), oo 5 (.len (.t 4)), oo 6 (.bin .gtr (.t 5) (.v (.int .i64 1024)))]) (.cond (.t 6) (.seq (.ops [oo 2 (.mov (.v (.int .i64 3)))]) .ret) .skip)) (.seq (.seq (.ops [oo 3 (.mov (.v (.int .i64 0)))]) (.block 0 (.loop (.seq (.seq (.ops [oo 7 (.mov (.t 3)), oo 8 (.mov (.t 0)), oo 9 (.len (.t 8)), oo 10 (.bin .lss (.t 7) (.t 9))]) (.cond (.t 10) .skip (.exit 0))) (.seq (.block 1 (.seq (.ops [oo 13 (.mov (.t 0)), oo 14 (.mov (.t 3)), oo 15 (.iaddr 2 (.t 13) (.t 14)), oo 16 (.load true 2 (.t 15)), oo 17 (.call 84 [(.t 16)]), oo 18 (.bin .neq (.t 17) (.v (.int .i64 0)))]) (.cond (.t 18) (.seq (.ops [oo 2 (.mov (.v (.int .i64 7)))]) .ret) .skip))) (.ops [oo 11 (.mov (.t 3)), oo 12 (.bin .add (.t 11) (.v (.int .i64 1))), oo 3 (.mov (.t 12))])))))) (.seq (.seq (.ops [oo 19 (.mov (.t 0)), oo 20 (.call 85 [(.t 19)]), oo 21 (.mov (.t 0)), oo 22 (.call 19 [(.t 20), (.t 21)]), oo 23 (.un .not (.t 22))]) (.cond (.t 23) (.seq (.ops [oo 2 (.mov (.v (.int .i64 6)))]) .ret) .skip)) (.seq (.ops [oo 2 (.mov (.v (.int .i64 0)))]) .ret)))))⟩
theorem c57 : aD Tryz.prog 57 = some F57 := by kernel_rfl
theorem DT (l : List Tm) {i : Nat} (hi : i < l.length) (h : okT l[i] = 0) : (l.drop i).find? (fun t => decide (okT t ≠ 0)) = (l.drop (i + 1)).find? (fun t => decide (okT t ≠ 0)) := by
  rw [List.drop_eq_getElem_cons hi, List.find?_cons]
  simp [h]
theorem HY (t : Tm) : okT t = 0 ∨ okT t = 7 := by rw [← uI]; unfold RU; split <;> simp
theorem HZ (x : AV) (l : List Tm) (H : AH) (hx : elems 2 x H = some (l.map aQ)) (hl : l.length < 1099511627776) : aC Tryz.prog 57 [x] H fun r H' => r = .int .i64 (eF l) ∧ H' = H := by
  refine aG c57 (fun _ => rfl) (by simp [F57]) ?_
  unfold F57
  have la := aL hx
  rw [List.length_map] at la
  by_cases hg : l.length > 1024
  · have hg' : (l.length : Int) > 1024 := by omega
    have e : eF l = 3 := by unfold eF; rw [if_pos hg]
    rw [e]
    simp only [push_cast, ↓reduceIte, Nat.reduceEqDiff, reduceCtorEq, Nat.reduceAdd, Nat.reduceLT, Nat.reduceLeDiff, la, hg', decide_true]
    (repeat (first | exact List.prefix_refl _ | refine List.IsPrefix.trans ?_ (List.prefix_append _ _)))
  have hg' : ¬ (l.length : Int) > 1024 := by omega
  have e : eF l = match l.find? (fun t => decide (okT t ≠ 0)) with | some t => okT t | none => if mV l = l then 0 else 6 := by unfold eF; rw [if_neg hg]; rfl
  rw [e]
  simp only [push_cast, ↓reduceIte, Nat.reduceEqDiff, reduceCtorEq, Nat.reduceAdd, Nat.reduceLT, Nat.reduceLeDiff, la, hg', decide_false]
  refine aI (fun (i : Nat) f H' => H' = H ∧ i ≤ l.length ∧ f 0 = x ∧ f 3 = .int .i64 i ∧ l.find? (fun t => decide (okT t ≠ 0)) = (l.drop i).find? (fun t => decide (okT t ≠ 0))) (fun i => l.length - i) 0 ⟨rfl, Nat.zero_le _, rfl, rfl, rfl⟩ ?_
  rintro i f H' ⟨rfl, h1, e0, e3, hd⟩
  by_cases hi : i < l.length
  · have hi' : (i : Int) < l.length := by omega
    have w1 : IntKind.i64.wrap ((i : Int) + 1) = ((i + 1 : Nat) : Int) := by rw [aE (by omega) (by omega)]; omega
    have ax : aF 2 x (.int .i64 (i : Int)) = some (ptk x i 0) := aK hx (by rw [List.length_map]; exact hi) _
    have lx : (l.map aQ)[i]? = some (aQ l[i]) := by simp [hi]
    have le : ∀ (ag : Bool) (s c : Nat), cG ag s (ptk x i c) H' = part ag s c (aQ l[i]) := aO hx lx (List.prefix_refl H')
    have p2 : ∀ s : Tm, part true 2 0 (aQ s) = some (aQ s) := fun _ => rfl
    by_cases hk : okT l[i] = 0
    · rw [DT l hi hk] at hd
      simp only [push_cast, ↓reduceIte, Nat.reduceEqDiff, reduceCtorEq, Nat.reduceAdd, Nat.reduceLT, Nat.reduceLeDiff, aB, aA, e0, e3, la, hi', ax, le, p2]
      (refine aC.look (JU l[i] _) ?_; simp only [push_cast, ↓reduceIte, Nat.reduceEqDiff, reduceCtorEq, Nat.reduceAdd, Nat.reduceLT, Nat.reduceLeDiff, aB, aA, uI, hk, e0, e3])
      exact ⟨i + 1, ⟨hi, by rw [w1], hd⟩, by omega⟩
    · have h7 := (HY l[i]).resolve_left hk
      have hf : l.find? (fun t => decide (okT t ≠ 0)) = some l[i] := by
        rw [hd, List.drop_eq_getElem_cons hi, List.find?_cons]
        simp [hk]
      have n7 : ¬ (7 : Int) = 0 := by decide
      rw [hf]
      dsimp only
      simp only [push_cast, ↓reduceIte, Nat.reduceEqDiff, reduceCtorEq, Nat.reduceAdd, Nat.reduceLT, Nat.reduceLeDiff, aB, aA, e0, e3, la, hi', ax, le, p2]
      (refine aC.look (JU l[i] _) ?_; simp only [push_cast, ↓reduceIte, Nat.reduceEqDiff, reduceCtorEq, Nat.reduceAdd, Nat.reduceLT, Nat.reduceLeDiff, aB, aA, uI, h7, n7, e0, e3])
      (repeat (first | exact List.prefix_refl _ | refine List.IsPrefix.trans ?_ (List.prefix_append _ _)))
  · have hi' : ¬ (i : Int) < l.length := by omega
    have hf : l.find? (fun t => decide (okT t ≠ 0)) = none := by rw [hd, List.drop_eq_nil_of_le (by omega)]; rfl
    rw [hf]
    dsimp only
    simp only [push_cast, ↓reduceIte, Nat.reduceEqDiff, reduceCtorEq, Nat.reduceAdd, Nat.reduceLT, Nat.reduceLeDiff, aB, aA, e0, e3, la, hi']
    (refine aC.look (RY x l _ hx hl) ?_; simp only [push_cast, ↓reduceIte, Nat.reduceEqDiff, reduceCtorEq, Nat.reduceAdd, Nat.reduceLT, Nat.reduceLeDiff, aB, aA, e0])
    (refine aC.look (NI (eJ (mV l)) x (mV l) l _ rfl hx hl) ?_; simp only [push_cast, ↓reduceIte, Nat.reduceEqDiff, reduceCtorEq, Nat.reduceAdd, Nat.reduceLT, Nat.reduceLeDiff, aB, aA, e0])
    by_cases hn : mV l = l
    · rw [if_pos hn]
      have hn2 : decide (mV l = l) = true := decide_eq_true hn
      have nt : (!true) = false := rfl
      simp only [push_cast, ↓reduceIte, Nat.reduceEqDiff, reduceCtorEq, Nat.reduceAdd, Nat.reduceLT, Nat.reduceLeDiff, hn, hn2, nt]
      (repeat (first | exact List.prefix_refl _ | refine List.IsPrefix.trans ?_ (List.prefix_append _ _)))
    · rw [if_neg hn]
      have hn2 : decide (mV l = l) = false := decide_eq_false hn
      have nt : (!false) = true := rfl
      simp only [push_cast, ↓reduceIte, Nat.reduceEqDiff, reduceCtorEq, Nat.reduceAdd, Nat.reduceLT, Nat.reduceLeDiff, hn, hn2, nt]
      (repeat (first | exact List.prefix_refl _ | refine List.IsPrefix.trans ?_ (List.prefix_append _ _)))
theorem xU (a : Tm) : jV a a = a := by cases a; simp [jV]
theorem DU (l : List Tm) (t : Tm) {i : Nat} (hi : i < l.length) : yA (l.take (i + 1)) t = if i = 0 then fR t l[i] else jV (yA (l.take i) t) (fR t l[i]) := by
  cases l with
  | nil => exact absurd hi (Nat.not_lt_zero _)
  | cons p r =>
    cases i with
    | zero => rfl
    | succ k =>
      have hk : k < r.length := by simpa using hi
      rw [if_neg (by omega), List.take_succ_cons, List.take_succ_cons, yA, yA, ← List.take_append_getElem hk, List.foldl_append]
      rfl
def F86 : AFn := ⟨27, 2, [.cell 4 true 2], (.seq (.ops [oo 3 (.box 2 (.t 1)), oo 4 (.alloc 2 (.agg [(.int .i64 0), (.int .i64 0)]))]) (.seq (.ops [oo 5 (.alloc 2 (.agg [(.int .i64 0), (.int .i64 0)]))]) (.seq (.seq (.ops [oo 6 (.mov (.v (.int .i64 0)))]) (.block 0 (.loop (.seq (.seq (.ops [oo 8 (.mov (.t 6)), oo 9 (.mov (.t 0)), oo 10 (.len (.t 9)), oo 11 (.bin .lss (.t 8) (.t 10))]) (.cond (.t 11) .skip (.exit 0))) (.seq (.block 1 (.seq (.ops [oo 27 (.load true 2 (.t 3)), oo 28 (.mov (.t 0)), oo 29 (.mov (.t 6)), oo 30 (.iaddr 2 (.t 28) (.t 29)), oo 31 (.load true 2 (.t 30)), oo 33 (.alloc 2 (.agg [(.int .i64 0), (.int .i64 0)])), oo 32 (.call 108 [(.t 27), (.t 31)]), oo 34 (.store 2 (.t 33) (.t 32)), oo 14 (.mov (.t 27)), oo 15 (.mov (.t 28)), oo 16 (.mov (.t 29)), oo 17 (.mov (.t 30)), oo 18 (.mov (.t 31)), oo 7 (.mov (.t 33)), oo 19 (.mov (.t 32))]) (.seq (.seq (.ops [oo 20 (.mov (.t 6)), oo 21 (.bin .eql (.t 20) (.v (.int .i64 0)))]) (.cond (.t 21) (.ops [oo 22 (.load true 2 (.t 7)), on (.store 2 (.t 5) (.t 22))]) .skip)) (.ops [oo 23 (.load true 2 (.t 5)), oo 24 (.load true 2 (.t 7)), oo 25 (.call 109 [(.t 23), (.t 24)]), on (.store 2 (.t 5) (.t 25))])))) (.ops [oo 12 (.mov (.t 6)), oo 13 (.bin .add (.t 12) (.v (.int .i64 1))), oo 6 (.mov (.t 13))])))))) (.seq (.ops [oo 26 (.load true 2 (.t 5)), on (.store 2 (.t 4) (.t 26))]) .ret))))⟩
theorem c86 : aD Tryz.prog 86 = some F86 := by kernel_rfl
theorem RZ (l : List Tm) (t : Tm) (H : AH) (hl : l.length < 1099511627776) : aC Tryz.prog 86 [eJ l, aQ t] H fun r H' => r = aQ (yA l t) ∧ H' = H := by
  refine aG c86 (fun _ => rfl) (by simp [F86]) ?_
  unfold F86
  have la : cZ (eJ l) = some l.length := by simp [eJ, cZ]
  simp only [push_cast, ↓reduceIte, Nat.reduceEqDiff, reduceCtorEq, Nat.reduceAdd, Nat.reduceLT, Nat.reduceLeDiff, aB, aA, aQ]
  refine aI (fun (i : Nat) f H' => (H ++ [aR.live 2 [.agg [.int .i64 t.f0, .int .i64 t.f1]]]) <+: H' ∧ i ≤ l.length ∧ f 0 = eJ l ∧ f 3 = .ptr H.length 0 0 ∧ f 4 = .ptr (H.length + 1) 0 0 ∧ f 5 = .ptr (H.length + 1 + 1) 0 0 ∧ obj? H' (H.length + 1) = some (2, [.agg [.int .i64 0, .int .i64 0]]) ∧ obj? H' (H.length + 1 + 1) = some (2, [.agg [.int .i64 (yA (l.take i) t).f0, .int .i64 (yA (l.take i) t).f1]]) ∧ f 6 = .int .i64 i) (fun i => l.length - i) 0 ?_ ?_
  · exact ⟨by (repeat (first | exact List.prefix_refl _ | refine List.IsPrefix.trans ?_ (List.prefix_append _ _))), Nat.zero_le _, rfl, rfl, rfl, rfl, (gT (by simp)).trans (fO (by simp)), fO (by simp), rfl⟩
  · rintro i f H' ⟨hp, h1, e0, e3, e4, e5, o4, o5, e6⟩
    have hb : obj? H' H.length = some (2, [.agg [.int .i64 t.f0, .int .i64 t.f1]]) := bB hp (bA _ _ _)
    have hlt := aY hb
    have hlt4 := aY o4
    have hlt5 := aY o5
    have hp0 : H <+: H' := (List.prefix_append _ _).trans hp
    by_cases hi : i < l.length
    · have hi' : (i : Int) < l.length := by omega
      have w1 : IntKind.i64.wrap ((i : Int) + 1) = ((i + 1 : Nat) : Int) := by rw [aE (by omega) (by omega)]; omega
      have ax : aF 2 (eJ l) (.int .i64 (i : Int)) = some (.lptr 2 (l.map aQ) i 0) := cM (by rw [List.length_map]; exact hi) _
      have lx : (l.map aQ)[i]? = some (aQ l[i]) := by simp [hi]
      have ht := DU l t hi
      generalize yA (l.take i) t = b at ht o5
      have s5 : ∀ c j, obj? (List.set H' (H.length + 1 + 1) (aR.live 2 c) ++ [j]) (H.length + 1 + 1) = some (2, c) := fun c j => (gT (by simpa using hlt5)).trans (bP hlt5)
      have n5 : ∀ c c2, obj? (List.set H' (H.length + 1 + 1) (aR.live 2 c) ++ [aR.live 2 c2]) H'.length = some (2, c2) := fun c c2 => fO (by simp)
      have r5 : ∀ J, obj? (H' ++ J) (H.length + 1 + 1) = some (2, [.agg [.int .i64 b.f0, .int .i64 b.f1]]) := fun J => bB (List.prefix_append _ _) o5
      have k4 : ∀ c j, obj? (List.set H' (H.length + 1 + 1) (aR.live 2 c) ++ [j]) (H.length + 1) = some (2, [.agg [.int .i64 0, .int .i64 0]]) := fun c j => by rw [gT (by simpa using hlt4), bF (by omega)]; exact o4
      have kp : ∀ c J, (H ++ [aR.live 2 [.agg [.int .i64 t.f0, .int .i64 t.f1]]]) <+: List.set H' (H.length + 1 + 1) (aR.live 2 c) ++ J := fun c J => aN (bM hp (by simp) _)
      by_cases h0 : i = 0
      · have h0' : (i : Int) = 0 := by omega
        rw [if_pos h0] at ht
        simp only [push_cast, ↓reduceIte, Nat.reduceEqDiff, reduceCtorEq, Nat.reduceAdd, Nat.reduceLT, Nat.reduceLeDiff, aB, aA, e0, e3, e4, e5, e6, la, hi', ax, lx, aQ, hb, hlt, o5, hlt5]
        (refine aC.look (DN t l[i] _) ?_; simp only [push_cast, ↓reduceIte, Nat.reduceEqDiff, reduceCtorEq, Nat.reduceAdd, Nat.reduceLT, Nat.reduceLeDiff, aB, aA, aQ, e0, e3, e4, e5, e6, hlt5, o5, h0', s5, n5, decide_true])
        (refine aC.look (DP (fR t l[i]) (fR t l[i]) _) ?_; simp only [push_cast, ↓reduceIte, Nat.reduceEqDiff, reduceCtorEq, Nat.reduceAdd, Nat.reduceLT, Nat.reduceLeDiff, aB, aA, aQ, xU, e0, e3, e4, e5, e6, hlt5, s5])
        refine ⟨i + 1, ⟨bM (kp _ _) (by simp) _, hi, ?_, ?_, ?_⟩, by omega⟩
        · rw [bF (by omega)]; exact k4 _ _
        · rw [ht]; exact bP (by simp; omega)
        · rw [w1]
      · have h0' : ¬ (i : Int) = 0 := by omega
        rw [if_neg h0] at ht
        simp only [push_cast, ↓reduceIte, Nat.reduceEqDiff, reduceCtorEq, Nat.reduceAdd, Nat.reduceLT, Nat.reduceLeDiff, aB, aA, e0, e3, e4, e5, e6, la, hi', ax, lx, aQ, hb, hlt, o5, hlt5]
        (refine aC.look (DN t l[i] _) ?_; simp only [push_cast, ↓reduceIte, Nat.reduceEqDiff, reduceCtorEq, Nat.reduceAdd, Nat.reduceLT, Nat.reduceLeDiff, aB, aA, aQ, e0, e3, e4, e5, e6, hlt5, r5, h0', decide_false])
        (refine aC.look (DP b (fR t l[i]) _) ?_; simp only [push_cast, ↓reduceIte, Nat.reduceEqDiff, reduceCtorEq, Nat.reduceAdd, Nat.reduceLT, Nat.reduceLeDiff, aB, aA, aQ, e0, e3, e4, e5, e6, hlt5, o5])
        refine ⟨i + 1, ⟨kp _ _, hi, k4 _ _, ?_, ?_⟩, by omega⟩
        · rw [ht]; exact s5 _ _
        · rw [w1]
    · have hi' : ¬ (i : Int) < l.length := by omega
      rw [List.take_of_length_le (by omega)] at o5
      simp only [push_cast, ↓reduceIte, Nat.reduceEqDiff, reduceCtorEq, Nat.reduceAdd, Nat.reduceLT, Nat.reduceLeDiff, aB, aA, e0, e3, e4, e5, e6, la, hi', o4, o5, hlt4, hlt5, bP hlt4]
      exact bM hp0 (by omega) _
end Go.Eng
end
section
set_option linter.unusedVariables false
set_option linter.unusedSimpArgs false
set_option maxRecDepth 10000
namespace Go.Eng
open Go Go.Proofs
def okI (n : Int) : Prop := -9223372036854775808 ≤ n ∧ n ≤ 9223372036854775807
instance (n : Int) : Decidable (okI n) := by unfold okI; infer_instance
def uJ (a b : Int) : AV := .agg [.int .i64 a, .int .i64 b]
def VN : AFn := ⟨17, 1, [.cell 2 true 2], (.seq (.ops [oo 2 (.alloc 2 (.agg [(.int .i64 0), (.int .i64 0)]))]) (.seq (.ops [oo 4 (.mov (.t 0)), oo 5 (.conv .u64 (.t 4)), oo 6 (.bin .rem (.t 5) (.v (.int .u64 4294967296))), oo 7 (.conv .i64 (.t 6)), oo 3 (.mov (.t 7))]) (.seq (.ops [oo 8 (.mov (.t 0)), oo 9 (.conv .u64 (.t 8)), oo 10 (.mov (.t 3)), oo 11 (.conv .u64 (.t 10)), oo 12 (.bin .sub (.t 9) (.t 11)), oo 13 (.bin .quo (.t 12) (.v (.int .u64 4294967296))), oo 14 (.conv .i64 (.t 13)), oo 15 (.mov (.t 3)), oo 16 (.build [(.int .i64 0), (.int .i64 0)] [(0, 1, (.t 14)), (1, 1, (.t 15))]), on (.store 2 (.t 2) (.t 16))]) .ret)))⟩
theorem XC : aD Tryz.prog 120 = some VN := by kernel_rfl
theorem SA (n : Int) (h : okI n) (H : AH) : aC Tryz.prog 120 [.int .i64 n] H fun r H' => r = uJ (n % 18446744073709551616 / 4294967296) (n % 4294967296) ∧ H' = H := by
  refine aG XC (fun _ => rfl) (by simp [VN]) ?_
  unfold VN
  unfold okI at h
  have c0 : IntKind.u64.wrap n = n % 18446744073709551616 := rfl
  have e1 : Int.tmod (n % 18446744073709551616) 4294967296 = n % 4294967296 := by
    rw [Int.tmod_eq_emod_of_nonneg (by omega)]; omega
  have w1 : IntKind.u64.wrap (n % 4294967296) = n % 4294967296 := by show n % 4294967296 % 18446744073709551616 = _; omega
  have r1 : cK .rem (.int .u64 (n % 18446744073709551616)) (.int .u64 4294967296) = some (.int .u64 (n % 4294967296)) := by simp [cK, e1, w1]
  have c2 : IntKind.i64.wrap (n % 4294967296) = n % 4294967296 := aE (by omega) (by omega)
  have s4 : IntKind.u64.wrap (n % 18446744073709551616 - n % 4294967296) = n % 18446744073709551616 - n % 4294967296 := by show (n % 18446744073709551616 - n % 4294967296) % 18446744073709551616 = _; omega
  have e5 : Int.tdiv (n % 18446744073709551616 - n % 4294967296) 4294967296 = n % 18446744073709551616 / 4294967296 := by
    rw [Int.tdiv_eq_ediv_of_nonneg (by omega)]; omega
  have w6 : IntKind.u64.wrap (n % 18446744073709551616 / 4294967296) = n % 18446744073709551616 / 4294967296 := by show n % 18446744073709551616 / 4294967296 % 18446744073709551616 = _; omega
  have q5 : cK .quo (.int .u64 (n % 18446744073709551616 - n % 4294967296)) (.int .u64 4294967296) = some (.int .u64 (n % 18446744073709551616 / 4294967296)) := by simp [cK, e5, w6]
  have c6 : IntKind.i64.wrap (n % 18446744073709551616 / 4294967296) = n % 18446744073709551616 / 4294967296 := aE (by omega) (by omega)
  generalize n % 18446744073709551616 / 4294967296 = hi at q5 c6
  generalize n % 4294967296 = lo at r1 c2 w1 s4 q5
  generalize n % 18446744073709551616 = u at c0 r1 s4 q5
  simp only [push_cast, ↓reduceIte, Nat.reduceEqDiff, reduceCtorEq, Nat.reduceAdd, Nat.reduceLT, Nat.reduceLeDiff, aB, aA, c0, r1, c2, w1, s4, q5, c6, Option.map_some]
  exact ⟨List.prefix_append _ _, rfl⟩
def VO : AFn := ⟨13, 1, [.cell 2 true 2], (.seq (.ops [oo 2 (.alloc 2 (.agg [(.int .i64 0), (.int .i64 0)]))]) (.seq (.ops [oo 4 (.mov (.t 0)), oo 5 (.call 120 [(.t 4)]), oo 3 (.alloc 2 (.agg [(.int .i64 0), (.int .i64 0)])), on (.store 2 (.t 3) (.t 5))]) (.seq (.seq (.ops [oo 6 (.mov (.t 0)), oo 7 (.bin .lss (.t 6) (.v (.int .i64 0)))]) (.cond (.t 7) (.ops [oo 8 (.faddr 0 (.t 3)), oo 9 (.load false 1 (.t 8)), oo 10 (.bin .sub (.t 9) (.v (.int .i64 4294967296))), oo 11 (.faddr 0 (.t 3)), on (.store 1 (.t 11) (.t 10))]) .skip)) (.seq (.ops [oo 12 (.load true 2 (.t 3)), on (.store 2 (.t 2) (.t 12))]) .ret))))⟩
theorem XD : aD Tryz.prog 110 = some VO := by kernel_rfl
theorem DV (n : Int) (h : okI n) (H : AH) : aC Tryz.prog 110 [.int .i64 n] H fun r H' => r = uJ (n / 4294967296) (n % 4294967296) ∧ H' = H := by
  refine aG XD (fun _ => rfl) (by simp [VO]) ?_
  unfold VO
  have h' := h
  unfold okI at h'
  by_cases h0 : n < 0
  · have w : IntKind.i64.wrap (n % 18446744073709551616 / 4294967296 - 4294967296) = n / 4294967296 := by rw [aE (by omega) (by omega)]; omega
    simp only [push_cast, ↓reduceIte, Nat.reduceEqDiff, reduceCtorEq, Nat.reduceAdd, Nat.reduceLT, Nat.reduceLeDiff, aB, aA]
    (refine aC.look (SA n h _) ?_; simp only [push_cast, ↓reduceIte, Nat.reduceEqDiff, reduceCtorEq, Nat.reduceAdd, Nat.reduceLT, Nat.reduceLeDiff, aB, aA, uJ, h0, w])
    (repeat (first | exact List.prefix_refl _ | refine List.IsPrefix.trans ?_ (List.prefix_append _ _)))
  · have w : n % 18446744073709551616 / 4294967296 = n / 4294967296 := by omega
    simp only [push_cast, ↓reduceIte, Nat.reduceEqDiff, reduceCtorEq, Nat.reduceAdd, Nat.reduceLT, Nat.reduceLeDiff, aB, aA]
    (refine aC.look (SA n h _) ?_; simp only [push_cast, ↓reduceIte, Nat.reduceEqDiff, reduceCtorEq, Nat.reduceAdd, Nat.reduceLT, Nat.reduceLeDiff, aB, aA, uJ, h0, w])
    (repeat (first | exact List.prefix_refl _ | refine List.IsPrefix.trans ?_ (List.prefix_append _ _)))
def VP : AFn := ⟨18, 1, [.t 2, .t 3], (.seq (.ops [oo 1 (.box 2 (.t 0)), oo 2 (.mov (.v (.int .i64 0))), oo 3 (.mov (.v (.int .i64 0)))]) (.seq (.seq (.ops [oo 4 (.faddr 0 (.t 1)), oo 5 (.load false 1 (.t 4)), oo 6 (.bin .lss (.t 5) (.v (.int .i64 (-2147483648)))), oo 7 (.mov (.t 6)), og 8 7 false (.faddr 0 (.t 1)), og 9 7 false (.load false 1 (.t 8)), og 10 7 false (.bin .gtr (.t 9) (.v (.int .i64 2147483647))), oo 11 (.pick (.t 7) (.v (.bool true)) (.t 10))]) (.cond (.t 11) (.seq (.ops [oo 2 (.mov (.v (.int .i64 0))), oo 3 (.mov (.v (.int .i64 60)))]) .ret) .skip)) (.seq (.ops [oo 12 (.faddr 0 (.t 1)), oo 13 (.load false 1 (.t 12)), oo 14 (.bin .mul (.t 13) (.v (.int .i64 4294967296))), oo 15 (.faddr 1 (.t 1)), oo 16 (.load false 1 (.t 15)), oo 17 (.bin .add (.t 14) (.t 16)), oo 2 (.mov (.t 17)), oo 3 (.mov (.v (.int .i64 0)))]) .ret)))⟩
theorem XE : aD Tryz.prog 111 = some VP := by kernel_rfl
theorem NK (a b : Int) (h1 : -4294967296 ≤ a ∧ a ≤ 4294967296) (h2 : 0 ≤ b ∧ b < 4294967296) (H : AH) : aC Tryz.prog 111 [uJ a b] H fun r H' => r = (if okI (a * 4294967296 + b) then .tup [.int .i64 (a * 4294967296 + b), .int .i64 0] else .tup [.int .i64 0, .int .i64 60]) ∧ H' = H := by
  refine aG XE (fun _ => by split <;> rfl) (by simp [VP]) ?_
  unfold VP uJ
  by_cases c1 : a < -2147483648
  · rw [if_neg (by unfold okI; omega)]
    simp only [push_cast, ↓reduceIte, Nat.reduceEqDiff, reduceCtorEq, Nat.reduceAdd, Nat.reduceLT, Nat.reduceLeDiff, aB, aA, c1, decide_true]
    (repeat (first | exact List.prefix_refl _ | refine List.IsPrefix.trans ?_ (List.prefix_append _ _)))
  · by_cases c2 : a > 2147483647
    · rw [if_neg (by unfold okI; omega)]
      simp only [push_cast, ↓reduceIte, Nat.reduceEqDiff, reduceCtorEq, Nat.reduceAdd, Nat.reduceLT, Nat.reduceLeDiff, aB, aA, c1, c2, decide_true, decide_false]
      (repeat (first | exact List.prefix_refl _ | refine List.IsPrefix.trans ?_ (List.prefix_append _ _)))
    · rw [if_pos (by unfold okI; omega)]
      have w1 : IntKind.i64.wrap (a * 4294967296) = a * 4294967296 := aE (by omega) (by omega)
      have w2 : IntKind.i64.wrap (a * 4294967296 + b) = a * 4294967296 + b := aE (by omega) (by omega)
      simp only [push_cast, ↓reduceIte, Nat.reduceEqDiff, reduceCtorEq, Nat.reduceAdd, Nat.reduceLT, Nat.reduceLeDiff, aB, aA, c1, c2, w1, w2, decide_false]
      (repeat (first | exact List.prefix_refl _ | refine List.IsPrefix.trans ?_ (List.prefix_append _ _)))
theorem DW (a b : Int) (ha : okI a) (hb : okI b) : lK a b = if okI (a + b) then (a + b, 0) else (0, 60) := by
  have ha2 := ha
  have hb2 := hb
  unfold okI at ha2 hb2
  unfold lK
  by_cases h0 : 0 < b
  · have w : IntKind.i64.wrap (9223372036854775807 - b) = 9223372036854775807 - b := aE (by omega) (by omega)
    rw [w]
    by_cases h1 : a > 9223372036854775807 - b
    · rw [if_pos (.inl ⟨h0, h1⟩), if_neg (by unfold okI; omega)]
    · rw [if_neg (by omega), if_pos (by unfold okI; omega), aE (by omega) (by omega)]
  · by_cases h2 : b < 0
    · have w : IntKind.i64.wrap (-9223372036854775808 - b) = -9223372036854775808 - b := aE (by omega) (by omega)
      rw [w]
      by_cases h1 : a < -9223372036854775808 - b
      · rw [if_pos (.inr ⟨h2, h1⟩), if_neg (by unfold okI; omega)]
      · rw [if_neg (by omega), if_pos (by unfold okI; omega), aE (by omega) (by omega)]
    · rw [if_neg (by omega), if_pos (by unfold okI; omega), aE (by omega) (by omega)]
theorem NL (a b : Int) (ha : okI a) (hb : okI b) : okI (lK a b).1 := by
  rw [DW a b ha hb]
  split
  · assumption
  · unfold okI; omega
def F87 : AFn := ⟨32, 2, [.t 4, .t 5], (.seq (.ops [oo 4 (.mov (.v (.int .i64 0))), oo 5 (.mov (.v (.int .i64 0)))]) (.seq (.ops [oo 9 (.mov (.t 0)), oo 10 (.call 110 [(.t 9)]), oo 11 (.mov (.t 1)), oo 12 (.call 110 [(.t 11)]), oo 6 (.alloc 2 (.agg [(.int .i64 0), (.int .i64 0)])), oo 7 (.alloc 2 (.agg [(.int .i64 0), (.int .i64 0)])), on (.store 2 (.t 6) (.t 10)), on (.store 2 (.t 7) (.t 12))]) (.seq (.ops [oo 13 (.faddr 1 (.t 6)), oo 14 (.load false 1 (.t 13)), oo 15 (.faddr 1 (.t 7)), oo 16 (.load false 1 (.t 15)), oo 17 (.bin .add (.t 14) (.t 16)), oo 8 (.mov (.t 17))]) (.seq (.ops [oo 18 (.faddr 0 (.t 6)), oo 19 (.load false 1 (.t 18)), oo 20 (.faddr 0 (.t 7)), oo 21 (.load false 1 (.t 20)), oo 22 (.bin .add (.t 19) (.t 21)), oo 23 (.mov (.t 8)), oo 24 (.bin .quo (.t 23) (.v (.int .i64 4294967296))), oo 25 (.bin .add (.t 22) (.t 24)), oo 26 (.mov (.t 8)), oo 27 (.bin .rem (.t 26) (.v (.int .i64 4294967296))), oo 28 (.build [(.int .i64 0), (.int .i64 0)] [(0, 1, (.t 25)), (1, 1, (.t 27))]), oo 29 (.call 111 [(.t 28)]), oo 30 (.ext (.t 29) 0), oo 31 (.ext (.t 29) 1), oo 4 (.mov (.t 30)), oo 5 (.mov (.t 31))]) .ret))))⟩
theorem c87 : aD Tryz.prog 87 = some F87 := by kernel_rfl
theorem SB (a b : Int) (ha : okI a) (hb : okI b) (H : AH) : aC Tryz.prog 87 [.int .i64 a, .int .i64 b] H fun r H' => r = .tup [.int .i64 (lK a b).1, .int .i64 (lK a b).2] ∧ H' = H := by
  refine aG c87 (fun _ => rfl) (by simp [F87]) ?_
  unfold F87
  have ha2 := ha
  have hb2 := hb
  unfold okI at ha2 hb2
  have e1 : IntKind.i64.wrap (a / 4294967296 + b / 4294967296) = a / 4294967296 + b / 4294967296 := aE (by omega) (by omega)
  have e2 : IntKind.i64.wrap (a % 4294967296 + b % 4294967296) = a % 4294967296 + b % 4294967296 := aE (by omega) (by omega)
  have t3 : Int.tdiv (a % 4294967296 + b % 4294967296) 4294967296 = (a % 4294967296 + b % 4294967296) / 4294967296 := Int.tdiv_eq_ediv_of_nonneg (by omega)
  have t4 : Int.tmod (a % 4294967296 + b % 4294967296) 4294967296 = (a % 4294967296 + b % 4294967296) % 4294967296 := Int.tmod_eq_emod_of_nonneg (by omega)
  have w3 : IntKind.i64.wrap ((a % 4294967296 + b % 4294967296) / 4294967296) = (a % 4294967296 + b % 4294967296) / 4294967296 := aE (by omega) (by omega)
  have w4 : IntKind.i64.wrap ((a % 4294967296 + b % 4294967296) % 4294967296) = (a % 4294967296 + b % 4294967296) % 4294967296 := aE (by omega) (by omega)
  have q3 : cK .quo (.int .i64 (a % 4294967296 + b % 4294967296)) (.int .i64 4294967296) = some (.int .i64 ((a % 4294967296 + b % 4294967296) / 4294967296)) := by simp [cK, t3, w3]
  have q4 : cK .rem (.int .i64 (a % 4294967296 + b % 4294967296)) (.int .i64 4294967296) = some (.int .i64 ((a % 4294967296 + b % 4294967296) % 4294967296)) := by simp [cK, t4, w4]
  have w5 : IntKind.i64.wrap (a / 4294967296 + b / 4294967296 + (a % 4294967296 + b % 4294967296) / 4294967296) = a / 4294967296 + b / 4294967296 + (a % 4294967296 + b % 4294967296) / 4294967296 := aE (by omega) (by omega)
  have hn := fun H => NK (a / 4294967296 + b / 4294967296 + (a % 4294967296 + b % 4294967296) / 4294967296) ((a % 4294967296 + b % 4294967296) % 4294967296) (by omega) (by omega) H
  have hs : (a / 4294967296 + b / 4294967296 + (a % 4294967296 + b % 4294967296) / 4294967296) * 4294967296 + (a % 4294967296 + b % 4294967296) % 4294967296 = a + b := by omega
  rw [hs] at hn
  rw [DW a b ha hb]
  generalize (a % 4294967296 + b % 4294967296) / 4294967296 = x at q3 w5 hn
  generalize (a % 4294967296 + b % 4294967296) % 4294967296 = y at q4 hn
  simp only [push_cast, ↓reduceIte, Nat.reduceEqDiff, reduceCtorEq, Nat.reduceAdd, Nat.reduceLT, Nat.reduceLeDiff, aB, aA]
  (refine aC.look (DV a ha _) ?_; try simp only [push_cast, ↓reduceIte, Nat.reduceEqDiff, reduceCtorEq, Nat.reduceAdd, Nat.reduceLT, Nat.reduceLeDiff, aB, aA])
  (refine aC.look (DV b hb _) ?_; simp only [push_cast, ↓reduceIte, Nat.reduceEqDiff, reduceCtorEq, Nat.reduceAdd, Nat.reduceLT, Nat.reduceLeDiff, aB, aA, uJ, e1, e2, q3, q4, w5, Option.map_some])
  refine (hn _).mono fun r H' ⟨hr, hh⟩ => ?_
  subst hh
  by_cases ho : okI (a + b)
  · rw [if_pos ho] at hr ⊢
    subst hr
    simp only [push_cast, ↓reduceIte, Nat.reduceEqDiff, reduceCtorEq, Nat.reduceAdd, Nat.reduceLT, Nat.reduceLeDiff]
    (repeat (first | exact List.prefix_refl _ | refine List.IsPrefix.trans ?_ (List.prefix_append _ _)))
  · rw [if_neg ho] at hr ⊢
    subst hr
    simp only [push_cast, ↓reduceIte, Nat.reduceEqDiff, reduceCtorEq, Nat.reduceAdd, Nat.reduceLT, Nat.reduceLeDiff]
    (repeat (first | exact List.prefix_refl _ | refine List.IsPrefix.trans ?_ (List.prefix_append _ _)))
end Go.Eng
end
section
namespace Go.Eng
open Go Stab
set_option linter.unusedVariables false
set_option linter.unusedSimpArgs false
abbrev jX (l : List Upd) : List Upd := Stab.sortS bL l
theorem fA {α : Type} (p : α → Bool) : ∀ l : List α, (l.filter p).length + (l.filter fun x => !p x).length = l.length
  | [] => rfl
  | x :: r => by
    have h := fA p r
    cases hp : p x <;> simp [List.filter_cons, hp] <;> omega
def eqv (b x : Upd) : Bool := decide (bL x b = 0)
theorem IA (b : Upd) : eqv b b = true := by unfold eqv; rw [iP.refl]; rfl
theorem eH {a b c : Upd} (h1 : bL a b = 0) (h2 : bL b c = 0) : bL a c = 0 := by
  have s1 := dG a b
  have s2 := dG b c
  have s3 := dG a c
  have t1 := lJ a b c (by omega) (by omega)
  have t2 := lJ c b a (by omega) (by omega)
  omega
theorem xV (R : List Upd) (b : Upd) (hb : ∀ x ∈ R, bL b x ≤ 0) : jX R = R.filter (eqv b) ++ jX (R.filter fun x => !eqv b x) := by
  have hG : ∀ x ∈ R.filter (eqv b), bL x b = 0 := fun x hx => by
    have := (List.mem_filter.1 hx).2
    unfold eqv at this
    simpa using this
  have hS : ∀ x ∈ jX (R.filter fun x => !eqv b x), x ∈ R ∧ bL x b ≠ 0 := fun x hx => by
    have h1 := (sortS_mem _ x).1 hx
    obtain ⟨h2, h3⟩ := List.mem_filter.1 h1
    unfold eqv at h3
    exact ⟨h2, by simpa using h3⟩
  refine (sortS_unique iP ?_ ?_).symm
  · rw [srt_app]
    refine ⟨?_, sortS_srt iP _, ?_⟩
    · refine List.Pairwise.imp_of_mem (R := fun _ _ => True) ?_ (List.pairwise_of_forall fun _ _ => trivial)
      intro x y hx hy _
      have h1 := hG x hx
      have h2 := hG y hy
      have := dG y b
      have := eH h1 (show bL b y = 0 by omega)
      omega
    · intro x hx y hy
      have h1 := hG x hx
      have h2 := hb y (hS y hy).1
      exact lJ x b y (by omega) h2
  · have hk : Keeps bL (R.filter fun x => !eqv b x) (jX (R.filter fun x => !eqv b x)) := eZ iP _
    have hpart : (R.filter (eqv b)).length + (R.filter fun x => !eqv b x).length = R.length := fA (eqv b) R
    refine ⟨by have h9 : (jX (R.filter fun x => !eqv b x)).length = (R.filter fun x => !eqv b x).length := Stab.sortS_len iP _; rw [List.length_append, h9]; exact hpart.symm, fun z => ?_⟩
    rw [List.filter_append, ← hk.2 z, List.filter_filter, List.filter_filter]
    by_cases hz : bL z b = 0
    · have e1 : R.filter (fun a => decide (bL z a = 0) && eqv b a) = R.filter fun e => decide (bL z e = 0) := by
        apply List.filter_congr
        intro x hx
        unfold eqv
        by_cases h : bL z x = 0
        · have s := dG z x
          have := eH (show bL x z = 0 by omega) hz
          simp [h, this]
        · simp [h]
      have e2 : R.filter (fun a => decide (bL z a = 0) && !eqv b a) = [] := by
        rw [List.filter_eq_nil_iff]
        intro x hx
        unfold eqv
        by_cases h : bL z x = 0
        · have s := dG z x
          have := eH (show bL x z = 0 by omega) hz
          simp [h, this]
        · simp [h]
      rw [e1, e2, List.append_nil]
    · have e1 : R.filter (fun a => decide (bL z a = 0) && eqv b a) = [] := by
        rw [List.filter_eq_nil_iff]
        intro x hx
        unfold eqv
        by_cases h : bL z x = 0
        · have : bL x b ≠ 0 := fun e => hz (eH h e)
          simp [h, this]
        · simp [h]
      have e2 : R.filter (fun a => decide (bL z a = 0) && !eqv b a) = R.filter fun e => decide (bL z e = 0) := by
        apply List.filter_congr
        intro x hx
        unfold eqv
        by_cases h : bL z x = 0
        · have : bL x b ≠ 0 := fun e => hz (eH h e)
          simp [h, this]
        · simp [h]
      rw [e1, e2, List.nil_append]
theorem NM (b : Upd) (G S : List Upd) (hG : ∀ x ∈ G, bL b x = 0) (hS : ∀ x ∈ S, bL b x ≠ 0) : dQ (b :: (G ++ S)) = G.length + 1 := by
  unfold dQ
  congr 1
  induction G with
  | nil =>
    cases S with
    | nil => rfl
    | cons x r => simp [hS x List.mem_cons_self]
  | cons x r ih =>
    simp only [List.cons_append, List.takeWhile_cons, hG x List.mem_cons_self, decide_true, if_true, List.length_cons]
    exact congrArg (· + 1) (ih (fun y hy => hG y (List.mem_cons_of_mem _ hy)))
theorem DX : ∀ (n : Nat) (z : List Upd) (k : Nat), z.length ≤ n → z.length ≤ k → fC k z = fC z.length z := by
  intro n
  induction n with
  | zero =>
    intro z k h _
    obtain rfl := List.eq_nil_of_length_eq_zero (show z.length = 0 by omega)
    cases k <;> rfl
  | succ n ih =>
    intro z k h hk
    cases z with
    | nil => cases k <;> rfl
    | cons x r =>
      rw [List.length_cons] at h hk
      obtain ⟨k, rfl⟩ : ∃ m, k = m + 1 := ⟨k - 1, by omega⟩
      have hg : 1 ≤ dQ (x :: r) := by simp [dQ]
      have h1 : ((x :: r).drop (dQ (x :: r))).length ≤ r.length := by rw [List.length_drop, List.length_cons]; omega
      show (x :: r).take (dQ (x :: r)) :: fC k ((x :: r).drop (dQ (x :: r))) = (x :: r).take (dQ (x :: r)) :: fC r.length ((x :: r).drop (dQ (x :: r)))
      rw [ih _ k (by omega) (by omega), ih _ r.length (by omega) h1]
theorem DY (R : List Upd) (b : Upd) (G' : List Upd) (hb : ∀ x ∈ R, bL b x ≤ 0) (hG : R.filter (eqv b) = b :: G') :
    fC R.length (jX R) = R.filter (eqv b) :: fC (R.filter fun x => !eqv b x).length (jX (R.filter fun x => !eqv b x)) := by
  have hpart := fA (eqv b) R
  have hlen : (jX (R.filter fun x => !eqv b x)).length = (R.filter fun x => !eqv b x).length := Stab.sortS_len iP _
  rw [xV R b hb, hG, ← hpart, hG, List.length_cons]
  generalize hS : jX (R.filter fun x => !eqv b x) = S at hlen
  have hg := NM b G' S (fun x hx => by
    have h1 : x ∈ R.filter (eqv b) := by rw [hG]; exact List.mem_cons_of_mem _ hx
    have h2 := (List.mem_filter.1 h1).2
    unfold eqv at h2
    have := dG x b
    simp at h2
    omega) (fun x hx => by
    rw [← hS] at hx
    have h1 := (sortS_mem _ x).1 hx
    have h2 := (List.mem_filter.1 h1).2
    unfold eqv at h2
    have := dG x b
    simp at h2
    omega)
  rw [show G'.length + 1 + (R.filter fun x => !eqv b x).length = (G'.length + S.length) + 1 by omega]
  show ((b :: G') ++ S).take (dQ (b :: (G' ++ S))) :: fC (G'.length + S.length) (((b :: G') ++ S).drop (dQ (b :: (G' ++ S)))) = _
  rw [hg]
  have e1 : ((b :: G') ++ S).take (G'.length + 1) = b :: G' := List.take_left' (by simp)
  have e2 : ((b :: G') ++ S).drop (G'.length + 1) = S := List.drop_left' (by simp)
  rw [e1, e2, DX S.length S _ (Nat.le_refl _) (by omega), hlen]
structure dU (l : List Upd) (P : Upd → Bool) (i : Nat) (bi : Int) : Prop where
  lt : bi < 0 → ∀ (j : Nat) (h : j < l.length), j < i → P l[j] = true
  ge : 0 ≤ bi → ∃ b : Nat, bi = b ∧ b < i ∧ ∃ h : b < l.length, P l[b] = false ∧ ∀ (j : Nat) (hj : j < l.length), j < i → P l[j] = false → bL l[b] l[j] ≤ 0 ∧ (j < b → bL l[b] l[j] < 0)
theorem dU.skip {l : List Upd} {P : Upd → Bool} {i : Nat} {bi : Int} (hb : dU l P i bi) (hi : i < l.length) (hP : P l[i] = true) : dU l P (i + 1) bi :=
  ⟨fun h0 j hj hji => by
      by_cases e : j = i
      · subst e; exact hP
      · exact hb.lt h0 j hj (by omega), fun h0 => by
      obtain ⟨b, e, h1, h2, h3, h4⟩ := hb.ge h0
      refine ⟨b, e, by omega, h2, h3, fun j hj hji hPj => ?_⟩
      by_cases e2 : j = i
      · subst e2; rw [hP] at hPj; cases hPj
      · exact h4 j hj (by omega) hPj⟩
theorem dU.first {l : List Upd} {P : Upd → Bool} {i : Nat} {bi : Int} (hb : dU l P i bi) (hi : i < l.length) (hP : P l[i] = false) (h0 : bi < 0) : dU l P (i + 1) i :=
  ⟨fun h1 => by omega, fun _ => ⟨i, rfl, by omega, hi, hP, fun j hj hji hPj => by
    by_cases e : j = i
    · subst e; rw [iP.refl]; exact ⟨Int.le_refl _, fun h => absurd h (Nat.lt_irrefl _)⟩
    · have := hb.lt h0 j hj (by omega)
      rw [hPj] at this; cases this⟩⟩
theorem dU.new_ {l : List Upd} {P : Upd → Bool} {i b : Nat} (hb : dU l P i b) (hi : i < l.length) (hbl : b < l.length) (hP : P l[i] = false) (hc : bL l[i] l[b] < 0) : dU l P (i + 1) i :=
  ⟨fun h1 => by omega, fun _ => ⟨i, rfl, by omega, hi, hP, fun j hj hji hPj => by
    by_cases e : j = i
    · subst e; rw [iP.refl]; exact ⟨Int.le_refl _, fun h => absurd h (Nat.lt_irrefl _)⟩
    · obtain ⟨b', eb, _, _, _, h4⟩ := hb.ge (by omega)
      have eb2 : b' = b := by omega
      subst eb2
      have h5 := (h4 j hj (by omega) hPj).1
      have h6 := iP.lt_le hc h5
      exact ⟨by omega, fun _ => h6⟩⟩⟩
theorem dU.stay {l : List Upd} {P : Upd → Bool} {i b : Nat} (hb : dU l P i b) (hi : i < l.length) (hbl : b < l.length) (hc : ¬ bL l[i] l[b] < 0) : dU l P (i + 1) b :=
  ⟨fun h1 => by omega, fun _ => by
    obtain ⟨b', eb, h1, h2, h3, h4⟩ := hb.ge (by omega)
    have eb2 : b' = b := by omega
    subst eb2
    refine ⟨b', rfl, by omega, h2, h3, fun j hj hji hPj => ?_⟩
    by_cases e : j = i
    · subst e
      have s := dG l[j] l[b']
      exact ⟨by omega, fun h => by omega⟩
    · exact h4 j hj (by omega) hPj⟩
def VQ : Option (List Upd) → List Upd × Int
  | some o => (o, 0)
  | none => ([], 60)
theorem DZ (l : List Upd) : bV l = VQ (dR [] (fC l.length (jX l))) := by
  unfold bV VQ
  cases dR [] (fC l.length (jX l)) <;> rfl
theorem rQ (l : List Upd) (Q : Upd → Bool) (b : Nat) (hb : b < l.length) (hq : Q l[b] = true) (hn : ∀ (j : Nat) (hj : j < l.length), j < b → Q l[j] = false) : ∃ G', l.filter Q = l[b] :: G' := by
  have e : l = l.take b ++ l[b] :: l.drop (b + 1) := by rw [← List.drop_eq_getElem_cons hb, List.take_append_drop]
  have h1 : (l.take b).filter Q = [] := by
    rw [List.filter_eq_nil_iff]
    intro x hx
    obtain ⟨j, hj, rfl⟩ := List.mem_iff_getElem.1 hx
    rw [List.length_take] at hj
    rw [List.getElem_take, hn j (by omega) (by omega)]
    decide
  refine ⟨(l.drop (b + 1)).filter Q, ?_⟩
  have h2 : l.filter Q = (l.take b ++ l[b] :: l.drop (b + 1)).filter Q := congrArg (List.filter Q) e
  rw [h2, List.filter_append, h1, List.nil_append, List.filter_cons, if_pos hq]
def VR (l : List Upd) (P : Upd → Bool) : Prop := ∀ x ∈ l, ∀ y ∈ l, bL x y = 0 → P x = P y
def fF (l : List Upd) (P : Upd → Bool) : List Upd := l.filter fun x => !P x
def JV (l : List Upd) (P : Upd → Bool) (out : List Upd) : List Upd × Int := VQ (dR out (fC (fF l P).length (jX (fF l P))))
def orP (P : Upd → Bool) (x : Upd) : Upd → Bool := fun y => P y || eqv x y
theorem EA (l : List Upd) (P : Upd → Bool) (out : List Upd) (bi : Int) (h0 : bi < 0) (hbi : dU l P l.length bi) : JV l P out = (out, 0) := by
  have hR : fF l P = [] := by
    unfold fF
    rw [List.filter_eq_nil_iff]
    intro x hx
    obtain ⟨j, hj, rfl⟩ := List.mem_iff_getElem.1 hx
    simp [hbi.lt h0 j hj hj]
  unfold JV
  rw [hR]
  rfl
theorem EB (l : List Upd) (P : Upd → Bool) (hP : VR l P) (out : List Upd) (b : Nat) (hbl : b < l.length) (hbi : dU l P l.length b) :
    VR l (orP P l[b]) ∧ (fF l (orP P l[b])).length < (fF l P).length ∧
    JV l P out = (match pB 0 (l.filter (eqv l[b])) with | none => ([], 60) | some s => JV l (orP P l[b]) (if s = 0 then out else out ++ [⟨l[b].f0, l[b].f1, s⟩])) := by
  obtain ⟨b', eb, _, hb, hPb, h4⟩ := hbi.ge (by omega)
  have eb2 : b' = b := by omega
  subst eb2
  have hmin : ∀ x ∈ fF l P, bL l[b'] x ≤ 0 := fun x hx => by
    obtain ⟨hx1, hx2⟩ := List.mem_filter.1 hx
    obtain ⟨j, hj, rfl⟩ := List.mem_iff_getElem.1 hx1
    exact (h4 j hj hj (by simpa using hx2)).1
  have hcls : l.filter (eqv l[b']) = (fF l P).filter (eqv l[b']) := by
    unfold fF
    rw [List.filter_filter]
    apply List.filter_congr
    intro x hx
    by_cases he : bL x l[b'] = 0
    · have := hP x hx l[b'] (List.getElem_mem hb) he
      rw [hPb] at this
      simp [this]
    · simp [eqv, he]
  obtain ⟨G', hG'⟩ := rQ l (eqv l[b']) b' hb (IA _) (fun j hj hjb => by
    unfold eqv
    apply decide_eq_false
    intro he
    have hPj : P l[j] = false := by rw [hP l[j] (List.getElem_mem hj) l[b'] (List.getElem_mem hb) he]; exact hPb
    have := (h4 j hj hj hPj).2 hjb
    have s := dG l[j] l[b']
    omega)
  have hG2 := hG'
  rw [hcls] at hG2
  have hgrp := DY (fF l P) l[b'] G' hmin hG2
  have hrest : (fF l P).filter (fun x => !eqv l[b'] x) = fF l (orP P l[b']) := by
    unfold fF orP
    rw [List.filter_filter]
    apply List.filter_congr
    intro x hx
    cases P x <;> cases eqv l[b'] x <;> rfl
  have hpart := fA (eqv l[b']) (fF l P)
  rw [hG2, List.length_cons, hrest] at hpart
  rw [← hcls, hrest] at hgrp
  refine ⟨fun x hx y hy he => ?_, by omega, ?_⟩
  · unfold orP
    rw [hP x hx y hy he]
    congr 1
    unfold eqv
    have s := dG x y
    rw [Bool.eq_iff_iff, decide_eq_true_eq, decide_eq_true_eq]
    exact ⟨fun h => eH (show bL y x = 0 by omega) h, fun h => eH he h⟩
  · unfold JV
    rw [hgrp]
    simp only [dR]
    unfold iR
    cases hs : pB 0 (l.filter (eqv l[b'])) with
    | none => rfl
    | some s =>
      have hhd : (l.filter (eqv l[b'])).headD (⟨[], ⟨0, 0⟩, 0⟩ : Upd) = l[b'] := by rw [hG']; rfl
      rw [hhd]
      dsimp only
      by_cases hs0 : s = 0
      · rw [if_pos hs0, if_pos hs0]; simp
      · rw [if_neg hs0, if_neg hs0]; simp
theorem NN (l : List Upd) (P : Upd → Bool) (x : Upd) (i : Nat) (hlt : i < l.length) (acc : Int) (he : bL l[i] x = 0) :
    pB acc ((l.drop i).filter (eqv x)) = (if (lK acc l[i].f2).2 = 0 then pB (lK acc l[i].f2).1 ((l.drop (i + 1)).filter (eqv x)) else none) ∧
    ((l.take i).map (orP P x) ++ (l.drop i).map P).set i true = (l.take (i + 1)).map (orP P x) ++ (l.drop (i + 1)).map P := by
  have htk : l.take (i + 1) = l.take i ++ [l[i]] := by rw [List.take_add_one, List.getElem?_eq_getElem hlt]; rfl
  have hdr : l.drop i = l[i] :: l.drop (i + 1) := List.drop_eq_getElem_cons hlt
  have hev : eqv x l[i] = true := decide_eq_true he
  have hor : orP P x l[i] = true := by unfold orP; rw [hev, Bool.or_true]
  have hlen : ((l.take i).map (orP P x)).length = i := by simp; omega
  refine ⟨by rw [hdr, List.filter_cons, if_pos hev]; rfl, ?_⟩
  rw [List.set_append_right _ _ (by omega), hlen, Nat.sub_self, hdr, List.map_cons, List.set_cons_zero, htk, List.map_append, List.append_assoc]
  simp only [List.map_cons, List.map_nil, hor, List.singleton_append]
theorem IB (l : List Upd) (P : Upd → Bool) (x : Upd) (i : Nat) (hlt : i < l.length) (acc : Int) (he : ¬ bL l[i] x = 0) :
    pB acc ((l.drop i).filter (eqv x)) = pB acc ((l.drop (i + 1)).filter (eqv x)) ∧
    (l.take i).map (orP P x) ++ (l.drop i).map P = (l.take (i + 1)).map (orP P x) ++ (l.drop (i + 1)).map P := by
  have htk : l.take (i + 1) = l.take i ++ [l[i]] := by rw [List.take_add_one, List.getElem?_eq_getElem hlt]; rfl
  have hdr : l.drop i = l[i] :: l.drop (i + 1) := List.drop_eq_getElem_cons hlt
  have hev : eqv x l[i] = false := decide_eq_false he
  have hor : orP P x l[i] = P l[i] := by unfold orP; rw [hev, Bool.or_false]
  refine ⟨by rw [hdr, List.filter_cons, if_neg (by rw [hev]; decide)], ?_⟩
  rw [hdr, List.map_cons, htk, List.map_append, List.append_assoc]
  simp only [List.map_cons, List.map_nil, hor, List.singleton_append]
end Go.Eng
end
section
set_option linter.unusedVariables false
set_option linter.unusedSimpArgs false
set_option maxRecDepth 10000
namespace Go.Eng
open Go Go.Proofs
def flA (l : List Upd) (P : Upd → Bool) : List AV := (l.map P).map .bool
structure CS (H0 H : AH) (T : Nat) (fl : List AV) (out : List Upd) (v : AV) : Prop where
  pre : H0 <+: H
  lt : H0.length ≤ T
  ob : obj? H T = some (1, fl)
  own : Own H0 H 4 v (out.map upA)
  ap : idx v ≠ some T
def EC : AC := (.block 4 (.loop (.seq (.seq (.ops [oo 46 (.mov (.t 9)), oo 47 (.mov (.t 0)), oo 48 (.len (.t 47)), oo 49 (.bin .lss (.t 46) (.t 48))]) (.cond (.t 49) .skip (.exit 4))) (.seq (.block 5 (.seq (.seq (.ops [oo 95 (.mov (.t 0)), oo 96 (.mov (.t 9)), oo 97 (.iaddr 4 (.t 95) (.t 96)), oo 98 (.load true 4 (.t 97)), oo 99 (.mov (.t 0)), oo 100 (.mov (.t 6)), oo 101 (.iaddr 4 (.t 99) (.t 100)), oo 102 (.load true 4 (.t 101)), oo 103 (.call 60 [(.t 98), (.t 102)]), oo 104 (.bin .neq (.t 103) (.v (.int .i64 0))), oo 52 (.mov (.t 95)), oo 53 (.mov (.t 96)), oo 54 (.mov (.t 97)), oo 55 (.mov (.t 98)), oo 56 (.mov (.t 99)), oo 57 (.mov (.t 100)), oo 58 (.mov (.t 101)), oo 59 (.mov (.t 102)), oo 60 (.mov (.t 103)), oo 61 (.mov (.t 104))]) (.cond (.t 61) (.exit 5) .skip)) (.seq (.ops [oo 63 (.mov (.t 8)), oo 64 (.mov (.t 0)), oo 65 (.mov (.t 9)), oo 66 (.iaddr 4 (.t 64) (.t 65)), oo 67 (.faddr 3 (.t 66)), oo 68 (.load false 1 (.t 67)), oo 69 (.call 87 [(.t 63), (.t 68)]), oo 62 (.mov (.t 69)), oo 70 (.ext (.t 62) 0), oo 71 (.ext (.t 62) 1), oo 10 (.mov (.t 70)), oo 11 (.mov (.t 71))]) (.seq (.seq (.ops [oo 72 (.mov (.t 11)), oo 73 (.bin .neq (.t 72) (.v (.int .i64 0)))]) (.cond (.t 73) (.seq (.ops [oo 2 (.mov (.v .nils)), oo 3 (.mov (.v (.int .i64 60)))]) .ret) .skip)) (.seq (.ops [oo 74 (.mov (.t 10)), oo 8 (.mov (.t 74))]) (.ops [oo 75 (.mov (.t 4)), oo 76 (.mov (.t 9)), oo 77 (.iaddr 1 (.t 75) (.t 76)), on (.store 1 (.t 77) (.v (.bool true)))])))))) (.ops [oo 50 (.mov (.t 9)), oo 51 (.bin .add (.t 50) (.v (.int .i64 1))), oo 9 (.mov (.t 51))])))))
def ED : AC := (.block 2 (.loop (.seq (.seq (.ops [oo 15 (.mov (.t 7)), oo 16 (.mov (.t 0)), oo 17 (.len (.t 16)), oo 18 (.bin .lss (.t 15) (.t 17))]) (.cond (.t 18) .skip (.exit 2))) (.seq (.block 3 (.seq (.ops [oo 95 (.mov (.t 4)), oo 96 (.mov (.t 7)), oo 97 (.iaddr 1 (.t 95) (.t 96)), oo 98 (.load false 1 (.t 97)), oo 99 (.un .not (.t 98)), oo 100 (.mov (.t 99)), og 101 100 true (.mov (.t 6)), og 102 100 true (.bin .lss (.t 101) (.v (.int .i64 0))), og 103 100 true (.mov (.t 102)), og 104 103 false (.mov (.t 0)), og 105 103 false (.mov (.t 7)), og 106 103 false (.iaddr 4 (.t 104) (.t 105)), og 107 103 false (.load true 4 (.t 106)), og 108 103 false (.mov (.t 0)), og 109 103 false (.mov (.t 6)), og 110 103 false (.iaddr 4 (.t 108) (.t 109)), og 111 103 false (.load true 4 (.t 110)), og 112 103 false (.call 60 [(.t 107), (.t 111)]), og 113 103 false (.bin .lss (.t 112) (.v (.int .i64 0))), og 114 100 true (.pick (.t 103) (.v (.bool true)) (.t 113)), oo 115 (.pick (.t 100) (.t 114) (.v (.bool false))), oo 21 (.mov (.t 95)), oo 22 (.mov (.t 96)), oo 23 (.mov (.t 97)), oo 24 (.mov (.t 98)), oo 25 (.mov (.t 99)), oo 26 (.mov (.t 100)), oo 27 (.mov (.t 101)), oo 28 (.mov (.t 102)), oo 29 (.mov (.t 103)), oo 30 (.mov (.t 104)), oo 31 (.mov (.t 105)), oo 32 (.mov (.t 106)), oo 33 (.mov (.t 107)), oo 34 (.mov (.t 108)), oo 35 (.mov (.t 109)), oo 36 (.mov (.t 110)), oo 37 (.mov (.t 111)), oo 38 (.mov (.t 112)), oo 39 (.mov (.t 113)), oo 40 (.mov (.t 114)), oo 41 (.mov (.t 115))]) (.cond (.t 41) (.ops [oo 42 (.mov (.t 7)), oo 6 (.mov (.t 42))]) .skip))) (.ops [oo 19 (.mov (.t 7)), oo 20 (.bin .add (.t 19) (.v (.int .i64 1))), oo 7 (.mov (.t 20))])))))
def SC : AC := (.block 0 (.loop (.block 1 (.seq (.ops [oo 6 (.mov (.v (.int .i64 (-1))))]) (.seq (.seq (.ops [oo 7 (.mov (.v (.int .i64 0)))]) (ED)) (.seq (.seq (.ops [oo 43 (.mov (.t 6)), oo 44 (.bin .lss (.t 43) (.v (.int .i64 0)))]) (.cond (.t 44) (.seq (.ops [oo 45 (.mov (.t 5)), oo 2 (.mov (.t 45)), oo 3 (.mov (.v (.int .i64 0)))]) .ret) .skip)) (.seq (.ops [oo 8 (.mov (.v (.int .i64 0)))]) (.seq (.seq (.ops [oo 9 (.mov (.v (.int .i64 0)))]) (EC)) (.seq (.ops [oo 78 (.mov (.t 8)), oo 79 (.bin .neq (.t 78) (.v (.int .i64 0)))]) (.cond (.t 79) (.ops [oo 95 (.mov (.t 5)), oo 96 (.mov (.t 0)), oo 97 (.mov (.t 6)), oo 98 (.iaddr 4 (.t 96) (.t 97)), oo 99 (.faddr 0 (.t 98)), oo 100 (.load false 1 (.t 99)), oo 101 (.mov (.t 0)), oo 102 (.mov (.t 6)), oo 103 (.iaddr 4 (.t 101) (.t 102)), oo 104 (.faddr 1 (.t 103)), oo 105 (.load true 2 (.t 104)), oo 106 (.mov (.t 8)), oo 107 (.build [.nils, (.int .i64 0), (.int .i64 0), (.int .i64 0)] [(0, 1, (.t 100)), (1, 2, (.t 105)), (3, 1, (.t 106))]), oo 108 (.bsl 4 1 (.agg [.nils, (.int .i64 0), (.int .i64 0), (.int .i64 0)]) [(0, (.t 107))]), oo 109 (.app 4 48 (.t 95) (.t 108)), oo 110 (.mov (.t 109)), oo 80 (.mov (.t 95)), oo 81 (.mov (.t 96)), oo 82 (.mov (.t 97)), oo 83 (.mov (.t 98)), oo 84 (.mov (.t 99)), oo 85 (.mov (.t 100)), oo 86 (.mov (.t 101)), oo 87 (.mov (.t 102)), oo 88 (.mov (.t 103)), oo 89 (.mov (.t 104)), oo 90 (.mov (.t 105)), oo 91 (.mov (.t 106)), oo 92 (.mov (.t 107)), oo 93 (.mov (.t 108)), oo 94 (.mov (.t 109)), oo 5 (.mov (.t 110))]) .skip))))))))))
def F59 : AFn := ⟨95, 1, [.t 2, .t 3], (.seq (.ops [oo 2 (.mov (.v .nils)), oo 3 (.mov (.v (.int .i64 0)))]) (.seq (.ops [oo 12 (.mov (.t 0)), oo 13 (.len (.t 12)), oo 14 (.mks 1 1 (.bool false) (.t 13) (.t 13)), oo 4 (.mov (.t 14))]) (.seq (.ops [oo 5 (.mov (.v .nils))]) (SC))))⟩
theorem c59 : aD Tryz.prog 59 = some F59 := by kernel_rfl
theorem NO {l : List Upd} {P : Upd → Bool} {H : AH} {T : Nat} {x : AV} {f : AF} {Q : AE → AF → AH → Prop} (hx : elems 4 x H = some (l.map upA)) (hl : l.length < 1099511627776) (hs : cI l) (ob : obj? H T = some (1, flA l P))
    (e0 : f 0 = x) (e4 : f 4 = .ref 1 T 0 l.length l.length true) (e6 : f 6 = .int .i64 (-1)) (e7 : f 7 = .int .i64 0)
    (hQ : ∀ f2 (bi : Int), dU l P l.length bi → -1 ≤ bi → f2 0 = x → f2 4 = .ref 1 T 0 l.length l.length true → f2 5 = f 5 → f2 6 = .int .i64 bi → Q .normal f2 H) : ED.wp Tryz.prog Q f H := by
  unfold ED
  have la := aL hx
  rw [List.length_map] at la
  have hfl : (flA l P).length = l.length := by simp [flA]
  simp only [push_cast, ↓reduceIte, Nat.reduceEqDiff, reduceCtorEq, Nat.reduceAdd, Nat.reduceLT, Nat.reduceLeDiff]
  generalize h5 : f 5 = z5 at hQ
  refine aI (fun (s : Nat × Int) f H' => H' = H ∧ s.1 ≤ l.length ∧ -1 ≤ s.2 ∧ dU l P s.1 s.2 ∧ f 0 = x ∧ f 4 = .ref 1 T 0 l.length l.length true ∧ f 5 = z5 ∧ f 6 = .int .i64 s.2 ∧ f 7 = .int .i64 s.1) (fun s => l.length - s.1) (0, -1) ⟨rfl, Nat.zero_le _, Int.le_refl _, ⟨fun _ j hj hji => absurd hji (Nat.not_lt_zero _), fun h => absurd h (by decide)⟩, e0, e4, h5, e6, e7⟩ ?_
  clear e0 e4 e6 e7 h5
  rintro ⟨i, bi⟩ f H' ⟨hh, h1, hb1, hb, e0, e4, e5, e6, e7⟩
  subst hh
  dsimp only at h1 hb1 hb e6 e7
  by_cases hi : i < l.length
  · have hi' : (i : Int) < l.length := by omega
    have w1 : IntKind.i64.wrap ((i : Int) + 1) = ((i + 1 : Nat) : Int) := by rw [aE (by omega) (by omega)]; omega
    have a1 : aF 1 (.ref 1 T 0 l.length l.length true) (.int .i64 (i : Int)) = some (.ptr T i 0) := by simp [aF, nat?, hi]
    have g1 : (flA l P)[i]? = some (.bool (P l[i])) := by simp [flA, hi]
    have pb : ∀ b : Bool, part false 1 0 (.bool b) = some (.bool b) := fun _ => rfl
    have ax : aF 4 x (.int .i64 (i : Int)) = some (ptk x i 0) := aK hx (by rw [List.length_map]; exact hi) _
    have lx : (l.map upA)[i]? = some (upA l[i]) := by simp [hi]
    have pu : ∀ u, part true 4 0 (upA u) = some (upA u) := fun _ => rfl
    have le := aO hx lx (List.prefix_refl H')
    cases hP : P l[i] with
    | true =>
      rw [hP] at g1
      simp only [push_cast, ↓reduceIte, Nat.reduceEqDiff, reduceCtorEq, Nat.reduceAdd, Nat.reduceLT, Nat.reduceLeDiff, aB, aA, e0, e4, e5, e6, e7, la, hi', a1, ob, g1, pb]
      refine ⟨(i + 1, bi), ⟨hi, hb1, hb.skip hi hP, rfl, ?_⟩, by dsimp only; omega⟩
      dsimp only; rw [w1]
    | false =>
      rw [hP] at g1
      by_cases h0 : bi < 0
      · simp only [push_cast, ↓reduceIte, Nat.reduceEqDiff, reduceCtorEq, Nat.reduceAdd, Nat.reduceLT, Nat.reduceLeDiff, aB, aA, e0, e4, e5, e6, e7, la, hi', a1, ob, g1, pb, h0, decide_true]
        refine ⟨(i + 1, (i : Int)), ⟨hi, by dsimp only; omega, hb.first hi hP h0, rfl, ?_⟩, by dsimp only; omega⟩
        dsimp only; rw [w1]
      · obtain ⟨b, rfl, q1, q2, q3, q4⟩ := hb.ge (by omega)
        have hbl := q2
        have ay : aF 4 x (.int .i64 (b : Int)) = some (ptk x b 0) := aK hx (by rw [List.length_map]; exact hbl) _
        have ly : (l.map upA)[b]? = some (upA l[b]) := by simp [hbl]
        have le2 := aO hx ly (List.prefix_refl H')
        simp only [push_cast, ↓reduceIte, Nat.reduceEqDiff, reduceCtorEq, Nat.reduceAdd, Nat.reduceLT, Nat.reduceLeDiff, aB, aA, e0, e4, e5, e6, e7, la, hi', a1, ob, g1, pb, h0, decide_false, ax, le, ay, le2, pu]
        (refine aC.look (vQ l[i] l[b] _ (hs _ (List.getElem_mem hi)) (hs _ (List.getElem_mem hbl))) ?_; simp only [push_cast, ↓reduceIte, Nat.reduceEqDiff, reduceCtorEq, Nat.reduceAdd, Nat.reduceLT, Nat.reduceLeDiff, aB, aA, e0, e4, e5, e6, e7])
        by_cases hc : bL l[i] l[b] < 0
        · simp only [push_cast, ↓reduceIte, Nat.reduceEqDiff, reduceCtorEq, Nat.reduceAdd, Nat.reduceLT, Nat.reduceLeDiff, hc, decide_true, e0, e4, e5, e6, e7]
          refine ⟨(i + 1, (i : Int)), ⟨hi, by dsimp only; omega, hb.new_ hi hbl hP hc, rfl, ?_⟩, by dsimp only; omega⟩
          dsimp only; rw [w1]
        · simp only [push_cast, ↓reduceIte, Nat.reduceEqDiff, reduceCtorEq, Nat.reduceAdd, Nat.reduceLT, Nat.reduceLeDiff, hc, decide_false, e0, e4, e5, e6, e7]
          refine ⟨(i + 1, (b : Int)), ⟨hi, hb1, hb.stay hi hbl hc, rfl, ?_⟩, by dsimp only; omega⟩
          dsimp only; rw [w1]
  · have hi' : ¬ (i : Int) < l.length := by omega
    obtain rfl : i = l.length := by omega
    simp only [push_cast, ↓reduceIte, Nat.reduceEqDiff, reduceCtorEq, Nat.reduceAdd, Nat.reduceLT, Nat.reduceLeDiff, aB, aA, e0, e4, e5, e6, e7, la, hi']
    exact hQ _ bi hb hb1 e0 e4 e5 e6
theorem CS.flag {H0 H : AH} {T : Nat} {fl fl' : List AV} {out : List Upd} {v : AV} (C : CS H0 H T fl out v) : CS H0 (List.set H T (.live 1 fl')) T fl' out v :=
  ⟨bM C.pre C.lt _, C.lt, bP (aY C.ob), C.own.set_other C.ap, C.ap⟩
theorem CS.app {H0 H : AH} {T : Nat} {fl : List AV} {out : List Upd} {v : AV} {u : Upd} (C : CS H0 H T fl out v) (hb : out.length + 1 < 16777217) :
    ∃ v' H2, mM 4 48 v (.ref 4 H.length 0 1 1 true) (H ++ [.live 4 [upA u]]) = some (v', H2) ∧ CS H0 H2 T fl (out ++ [u]) v' := by
  have ht := aY C.ob
  have ho := C.own.mono (J := [.live 4 [upA u]])
  have hx : elems 4 (.ref 4 H.length 0 1 1 true) (H ++ [.live 4 [upA u]]) = some [upA u] := bT (by simp)
  have ha := ho.app_eq (bytes := 48) hx (by simp) (by simp only [List.length_map, List.length_singleton]; omega)
  have ob := bB (List.prefix_append H [.live 4 [upA u]]) C.ob
  have hk := iQ (H := H ++ [.live 4 [upA u]]) C.ap
  refine ⟨_, _, ha, ho.killed (aN C.pre), C.lt, bB (List.prefix_append _ _) (hk.trans ob), ?_, ?_⟩
  · rw [List.map_append]
    exact Own.fresh (aN C.pre)
  · exact fun e => by cases e; simp at ht; omega
theorem IC (n : Int) : pB n [] = some n := rfl
theorem NP {l : List Upd} {P : Upd → Bool} {H0 H : AH} {T b : Nat} {x v : AV} {out : List Upd} {f : AF} {Q : AE → AF → AH → Prop} (hx : elems 4 x H0 = some (l.map upA)) (hl : l.length < 1099511627776) (hs : cI l) (hw : ∀ u ∈ l, okI u.f2) (C : CS H0 H T (flA l P) out v) (hbl : b < l.length)
    (e0 : f 0 = x) (e4 : f 4 = .ref 1 T 0 l.length l.length true) (e5 : f 5 = v) (e6 : f 6 = .int .i64 b) (e8 : f 8 = .int .i64 0) (e9 : f 9 = .int .i64 0)
    (hQ : ∀ f2 H2 s, pB 0 (l.filter (eqv l[b])) = some s → CS H0 H2 T (flA l (orP P l[b])) out v → f2 0 = x → f2 4 = .ref 1 T 0 l.length l.length true → f2 5 = v → f2 6 = .int .i64 b → f2 8 = .int .i64 s → Q .normal f2 H2)
    (hR : ∀ f2 H2, pB 0 (l.filter (eqv l[b])) = none → H0 <+: H2 → f2 2 = .nils → f2 3 = .int .i64 60 → Q .ret f2 H2) : EC.wp Tryz.prog Q f H := by
  unfold EC
  have la := aL hx
  rw [List.length_map] at la
  generalize hX : l[b] = X at hQ hR
  have hXs : X.f0.length < 1099511627776 := by rw [← hX]; exact hs _ (List.getElem_mem hbl)
  simp only [push_cast, ↓reduceIte, Nat.reduceEqDiff, reduceCtorEq, Nat.reduceAdd, Nat.reduceLT, Nat.reduceLeDiff]
  refine aI (fun (s : Nat × Int) f H' => s.1 ≤ l.length ∧ okI s.2 ∧ CS H0 H' T (((l.take s.1).map (orP P X) ++ (l.drop s.1).map P).map .bool) out v ∧ f 0 = x ∧ f 4 = .ref 1 T 0 l.length l.length true ∧ f 5 = v ∧ f 6 = .int .i64 b ∧ f 8 = .int .i64 s.2 ∧ f 9 = .int .i64 s.1 ∧ pB 0 (l.filter (eqv X)) = pB s.2 ((l.drop s.1).filter (eqv X))) (fun s => l.length - s.1) (0, 0) ⟨Nat.zero_le _, by unfold okI; decide, C, e0, e4, e5, e6, e8, e9, rfl⟩ ?_
  clear e0 e4 e5 e6 e8 e9 C
  rintro ⟨i, n⟩ f H' ⟨h1, hn, C, e0, e4, e5, e6, e8, e9, hsum⟩
  dsimp only at h1 hn C e8 e9 hsum
  by_cases hi : i < l.length
  · have hi' : (i : Int) < l.length := by omega
    have w1 : IntKind.i64.wrap ((i : Int) + 1) = ((i + 1 : Nat) : Int) := by rw [aE (by omega) (by omega)]; omega
    have ax : aF 4 x (.int .i64 (i : Int)) = some (ptk x i 0) := aK hx (by rw [List.length_map]; exact hi) _
    have lx : (l.map upA)[i]? = some (upA l[i]) := by simp [hi]
    have ay : aF 4 x (.int .i64 (b : Int)) = some (ptk x b 0) := aK hx (by rw [List.length_map]; exact hbl) _
    have ly : (l.map upA)[b]? = some (upA X) := by simp [hbl, hX]
    have pu : ∀ u, part true 4 0 (upA u) = some (upA u) := fun _ => rfl
    have p3 : ∀ u, part false 1 3 (upA u) = some (.int .i64 u.f2) := fun _ => rfl
    have le := aO hx lx C.pre
    have le2 := aO hx ly C.pre
    simp only [push_cast, ↓reduceIte, Nat.reduceEqDiff, reduceCtorEq, Nat.reduceAdd, Nat.reduceLT, Nat.reduceLeDiff, aB, aA, e0, e4, e5, e6, e8, e9, la, hi', ax, le, ay, le2, pu]
    (refine aC.look (vQ l[i] X _ (hs _ (List.getElem_mem hi)) hXs) ?_; simp only [push_cast, ↓reduceIte, Nat.reduceEqDiff, reduceCtorEq, Nat.reduceAdd, Nat.reduceLT, Nat.reduceLeDiff, aB, aA, e0, e4, e5, e6, e8, e9])
    by_cases he : bL l[i] X = 0
    · obtain ⟨s1, s2⟩ := NN l P X i hi n he
      rw [s1] at hsum
      have hwi := hw _ (List.getElem_mem hi)
      have hok := NL n l[i].f2 hn hwi
      have hcode := qX n l[i].f2
      simp only [push_cast, ↓reduceIte, Nat.reduceEqDiff, reduceCtorEq, Nat.reduceAdd, Nat.reduceLT, Nat.reduceLeDiff, aB, aA, he, e0, e4, e5, e6, e8, e9, ax, le, cO, p3, Nat.zero_add]
      (refine aC.look (SB n l[i].f2 hn hwi _) ?_; simp only [push_cast, ↓reduceIte, Nat.reduceEqDiff, reduceCtorEq, Nat.reduceAdd, Nat.reduceLT, Nat.reduceLeDiff, aB, aA, e0, e4, e5, e6, e8, e9])
      by_cases hc : (lK n l[i].f2).2 = 0
      · rw [if_pos hc] at hsum
        have a1 : aF 1 (.ref 1 T 0 l.length l.length true) (.int .i64 (i : Int)) = some (.ptr T i 0) := by simp [aF, nat?, hi]
        have ob := C.ob
        have hgl : (((l.take i).map (orP P X) ++ (l.drop i).map P).map AV.bool)[i]? = some (.bool (P l[i])) := by
          rw [List.getElem?_map, List.getElem?_append_right (by simp; omega)]
          simp [Nat.min_eq_left h1, hi]
        have pb : ∀ b : Bool, kK (.bool b) 0 [.bool true] = .bool true := fun _ => rfl
        have hset : (((l.take i).map (orP P X) ++ (l.drop i).map P).map AV.bool).set i (.bool true) = ((l.take (i + 1)).map (orP P X) ++ (l.drop (i + 1)).map P).map AV.bool := by rw [← List.map_set, s2]
        have C2 := C.flag (fl' := ((l.take (i + 1)).map (orP P X) ++ (l.drop (i + 1)).map P).map AV.bool)
        simp only [push_cast, ↓reduceIte, Nat.reduceEqDiff, reduceCtorEq, Nat.reduceAdd, Nat.reduceLT, Nat.reduceLeDiff, aB, aA, hc, e0, e4, e5, e6, e8, e9, a1, ob, hgl, pb, hset]
        refine ⟨(i + 1, (lK n l[i].f2).1), ⟨hi, hok, C2, rfl, ?_, hsum⟩, by dsimp only; omega⟩
        dsimp only; rw [w1]
      · rw [if_neg hc] at hsum
        have c60 := hcode.resolve_left hc
        have n60 : ¬ (60 : Int) = 0 := by decide
        simp only [push_cast, ↓reduceIte, Nat.reduceEqDiff, reduceCtorEq, Nat.reduceAdd, Nat.reduceLT, Nat.reduceLeDiff, aB, aA, c60, n60, e0, e4, e5, e6, e8, e9]
        exact hR _ _ hsum C.pre rfl rfl
    · obtain ⟨s1, s2⟩ := IB l P X i hi n he
      rw [s1] at hsum
      rw [s2] at C
      simp only [push_cast, ↓reduceIte, Nat.reduceEqDiff, reduceCtorEq, Nat.reduceAdd, Nat.reduceLT, Nat.reduceLeDiff, aB, aA, he, e0, e4, e5, e6, e8, e9]
      refine ⟨(i + 1, n), ⟨hi, hn, C, rfl, ?_, hsum⟩, by dsimp only; omega⟩
      dsimp only; rw [w1]
  · have hi' : ¬ (i : Int) < l.length := by omega
    have ht : l.take i = l := List.take_of_length_le (by omega)
    have hd : l.drop i = [] := List.drop_eq_nil_of_le (by omega)
    rw [hd, List.filter_nil, IC] at hsum
    rw [ht, hd, List.map_nil, List.append_nil] at C
    simp only [push_cast, ↓reduceIte, Nat.reduceEqDiff, reduceCtorEq, Nat.reduceAdd, Nat.reduceLT, Nat.reduceLeDiff, aB, aA, e0, e4, e5, e6, e8, e9, la, hi']
    exact hQ _ _ n hsum C e0 e4 e5 e6 e8
theorem rR (l : List Upd) : fF l (fun _ => false) = l := by
  unfold fF
  rw [List.filter_eq_self]
  intro x hx
  rfl
theorem xW (l : List Upd) : JV l (fun _ => false) [] = bV l := by
  unfold JV
  rw [rR, DZ]
theorem EE (x : AV) (l : List Upd) (H : AH) (hx : elems 4 x H = some (l.map upA)) (hl : l.length < 16777216) (hs : cI l) (hw : ∀ u ∈ l, okI u.f2) : aC Tryz.prog 59 [x] H fun r H' => r = iS l ∧ H' = H := by
  refine aW c59 (v := iS l) (fun n => ?_) (by simp [F59]) ?_
  · have : cl n (aZ (bV l).1) = true := mG (oR n) _
    simp [iS, cl, cls, this]
  unfold F59
  have la := aL hx
  rw [List.length_map] at la
  have nn : nat? (.int .i64 (l.length : Int)) = some l.length := by simp [nat?]
  have b1 : l.length * 1 ≤ 16777216 := by omega
  have b2 : l.length * 1 ≤ 140737488355328 := by omega
  have b3 : l.length ≤ 140737488355328 := by omega
  have zz : cQ l.length (.bool false) = flA l (fun _ => false) := by
    unfold cQ flA
    rw [List.map_map]
    exact (List.map_const' (l := l) (b := AV.bool false)).symm
  have zl : (flA l (fun _ => false)).length = l.length := by simp [flA]
  simp only [push_cast, ↓reduceIte, Nat.reduceEqDiff, reduceCtorEq, Nat.reduceAdd, Nat.reduceLT, Nat.reduceLeDiff, la, nn, b1, b2, b3, zz, zl]
  have C0 : CS H (H ++ [.live 1 (flA l (fun _ => false))]) H.length (flA l (fun _ => false)) [] .nils := ⟨aN (List.prefix_refl _), Nat.le_refl _, bA _ _ _, .inl ⟨rfl, rfl⟩, fun e => by cases e⟩
  have hst := xW l
  unfold iS
  refine aI (fun (s : (Upd → Bool) × List Upd) f H' => VR l s.1 ∧ JV l s.1 s.2 = bV l ∧ s.2.length + (fF l s.1).length ≤ l.length ∧ f 0 = x ∧ f 4 = .ref 1 H.length 0 l.length l.length true ∧ ∃ v, f 5 = v ∧ CS H H' H.length (flA l s.1) s.2 v) (fun s => (fF l s.1).length) (fun _ => false, []) ⟨fun _ _ _ _ _ => rfl, hst, by rw [rR]; simp, rfl, rfl, .nils, rfl, C0⟩ ?_
  rintro ⟨P, out⟩ f H' ⟨hP, hres, hlen, e0, e4, v, e5, C⟩
  dsimp only at hP hres hlen C
  simp only [push_cast, ↓reduceIte, Nat.reduceEqDiff, reduceCtorEq, Nat.reduceAdd, Nat.reduceLT, Nat.reduceLeDiff, e0, e4, e5]
  refine NO (P := P) (bJ hx C.pre) (by omega) hs C.ob (by exact e0) (by exact e4) (by rfl) (by rfl) fun f bi hb hb1 e0 e4 e5' e6 => ?_
  have e5 : f 5 = v := e5'.trans e5
  by_cases h0 : bi < 0
  · have hr := EA l P out bi h0 hb
    rw [hres] at hr
    rw [hr]
    simp only [push_cast, ↓reduceIte, Nat.reduceEqDiff, reduceCtorEq, Nat.reduceAdd, Nat.reduceLT, Nat.reduceLeDiff, e0, e4, e5, e6, h0, decide_true]
    obtain ⟨H3, w1, w2⟩ := C.own.weak C.pre
    exact ⟨H3, bZ.tup (i := 0) (vs := [v, .int .i64 0]) w1 rfl, w2⟩
  · obtain ⟨b, rfl, _, hbl, _⟩ := hb.ge (by omega)
    obtain ⟨s1, s2, s3⟩ := EB l P hP out b hbl hb
    rw [hres] at s3
    simp only [push_cast, ↓reduceIte, Nat.reduceEqDiff, reduceCtorEq, Nat.reduceAdd, Nat.reduceLT, Nat.reduceLeDiff, e0, e4, e5, e6, h0, decide_false]
    refine NP (P := P) hx (by omega) hs hw C hbl (by exact e0) (by exact e4) (by exact e5) (by exact e6) (by rfl) (by rfl) (fun f H2 s hsum C2 e0 e4 e5 e6 e8 => ?_) (fun f H2 hsum hp e2 e3 => ?_)
    · rw [hsum] at s3
      dsimp only at s3
      by_cases hs0 : s = 0
      · rw [if_pos hs0] at s3
        simp only [push_cast, ↓reduceIte, Nat.reduceEqDiff, reduceCtorEq, Nat.reduceAdd, Nat.reduceLT, Nat.reduceLeDiff, e0, e4, e5, e6, e8, hs0]
        exact ⟨(orP P l[b], out), ⟨s1, s3.symm, by dsimp only; omega, v, rfl, C2⟩, s2⟩
      · rw [if_neg hs0] at s3
        have ax : aF 4 x (.int .i64 (b : Int)) = some (ptk x b 0) := aK hx (by rw [List.length_map]; exact hbl) _
        have lx : (l.map upA)[b]? = some (upA l[b]) := by simp [hbl]
        have le := aO hx lx C2.pre
        have p0 : part false 1 0 (upA l[b]) = some (.list 3 (l[b].f0.map eC) false) := rfl
        have p1 : part true 2 1 (upA l[b]) = some (.agg [.int .i64 l[b].f1.f0, .int .i64 l[b].f1.f1]) := rfl
        obtain ⟨v', H3, ha, C3⟩ := C2.app (u := ⟨l[b].f0, l[b].f1, s⟩) (by omega)
        simp only [upA, aS] at ha
        simp only [push_cast, ↓reduceIte, Nat.reduceEqDiff, reduceCtorEq, Nat.reduceAdd, Nat.reduceLT, Nat.reduceLeDiff, aB, aA, e0, e4, e5, e6, e8, hs0, ax, le, cO, Nat.zero_add, p0, p1, ha]
        refine ⟨(orP P l[b], out ++ [⟨l[b].f0, l[b].f1, s⟩]), ⟨s1, s3.symm, ?_, v', rfl, C3⟩, s2⟩
        dsimp only
        rw [List.length_append, List.length_singleton]
        omega
    · rw [hsum] at s3
      rw [s3]
      simp only [push_cast, ↓reduceIte, Nat.reduceEqDiff, reduceCtorEq, Nat.reduceAdd, Nat.reduceLT, Nat.reduceLeDiff, e2, e3]
      exact ⟨H2, bZ.tup (i := 0) (vs := [.nils, .int .i64 60]) (bZ.nils _ 4) rfl, hp⟩
end Go.Eng
end
section
set_option linter.unusedVariables false
set_option linter.unusedSimpArgs false
set_option maxRecDepth 10000
namespace Go.Eng
open Go Go.Proofs
def F58 : AFn := ⟨35, 2, [.t 4], (.seq (.ops [oo 4 (.mov (.v .nils))]) (.seq (.ops [oo 5 (.mov (.v .nils))]) (.seq (.seq (.ops [oo 6 (.mov (.v (.int .i64 0)))]) (.block 0 (.loop (.seq (.seq (.ops [oo 7 (.mov (.t 6)), oo 8 (.mov (.t 0)), oo 9 (.len (.t 8)), oo 10 (.bin .lss (.t 7) (.t 9))]) (.cond (.t 10) .skip (.exit 0))) (.seq (.block 1 (.ops [oo 35 (.mov (.t 5)), oo 36 (.mov (.t 0)), oo 37 (.mov (.t 6)), oo 38 (.iaddr 4 (.t 36) (.t 37)), oo 39 (.faddr 0 (.t 38)), oo 40 (.load false 1 (.t 39)), oo 41 (.mov (.t 1)), oo 42 (.mov (.t 0)), oo 43 (.mov (.t 6)), oo 44 (.iaddr 4 (.t 42) (.t 43)), oo 45 (.faddr 1 (.t 44)), oo 46 (.load true 2 (.t 45)), oo 48 (.mov (.t 0)), oo 49 (.mov (.t 6)), oo 50 (.iaddr 4 (.t 48) (.t 49)), oo 51 (.faddr 3 (.t 50)), oo 52 (.load false 1 (.t 51)), oq 47 (.call 86 [(.t 41), (.t 46)]), oo 53 (.build [.nils, (.int .i64 0), (.int .i64 0), (.int .i64 0)] [(0, 1, (.t 40)), (1, 2, (.t 47)), (3, 1, (.t 52))]), oo 54 (.bsl 4 1 (.agg [.nils, (.int .i64 0), (.int .i64 0), (.int .i64 0)]) [(0, (.t 53))]), oo 55 (.app 4 48 (.t 35) (.t 54)), oo 56 (.mov (.t 55)), oo 13 (.mov (.t 35)), oo 14 (.mov (.t 36)), oo 15 (.mov (.t 37)), oo 16 (.mov (.t 38)), oo 17 (.mov (.t 39)), oo 18 (.mov (.t 40)), oo 19 (.mov (.t 41)), oo 20 (.mov (.t 42)), oo 21 (.mov (.t 43)), oo 22 (.mov (.t 44)), oo 23 (.mov (.t 45)), oo 24 (.mov (.t 46)), oo 26 (.mov (.t 48)), oo 27 (.mov (.t 49)), oo 28 (.mov (.t 50)), oo 29 (.mov (.t 51)), oo 30 (.mov (.t 52)), oo 25 (.mov (.t 47)), oo 31 (.mov (.t 53)), oo 32 (.mov (.t 54)), oo 33 (.mov (.t 55)), oo 5 (.mov (.t 56))])) (.ops [oo 11 (.mov (.t 6)), oo 12 (.bin .add (.t 11) (.v (.int .i64 1))), oo 6 (.mov (.t 12))])))))) (.seq (.ops [oo 34 (.mov (.t 5)), oo 4 (.mov (.t 34))]) .ret))))⟩
theorem c58 : aD Tryz.prog 58 = some F58 := by kernel_rfl
theorem xX (x : AV) (l : List Upd) (fr : List Tm) (H : AH) (hx : elems 4 x H = some (l.map upA)) (hl : l.length < 1099511627776) (hf : fr.length < 1099511627776) : aC Tryz.prog 58 [x, eJ fr] H fun r H' => r = aZ (l.map (mY fr)) ∧ H' = H := by
  refine aW c58 (v := aZ (l.map (mY fr))) (fun n => mG (oR n) _) (by simp [F58]) ?_
  unfold F58
  have la := aL hx
  rw [List.length_map] at la
  simp only [push_cast, ↓reduceIte, Nat.reduceEqDiff, reduceCtorEq, Nat.reduceAdd, Nat.reduceLT, Nat.reduceLeDiff]
  refine aI (fun (i : Nat) f H' => H <+: H' ∧ i ≤ l.length ∧ f 0 = x ∧ f 1 = eJ fr ∧ f 6 = .int .i64 i ∧ Own H H' 4 (f 5) (((l.take i).map (mY fr)).map upA)) (fun i => l.length - i) 0 ?_ ?_
  · exact ⟨List.prefix_refl _, Nat.zero_le _, rfl, rfl, rfl, .inl ⟨rfl, rfl⟩⟩
  · rintro i f H' ⟨hp, h1, e0, e1, e6, ho⟩
    generalize hv : f 5 = v at ho
    by_cases hi : i < l.length
    · have hi' : (i : Int) < l.length := by omega
      have w1 : IntKind.i64.wrap ((i : Int) + 1) = ((i + 1 : Nat) : Int) := by rw [aE (by omega) (by omega)]; omega
      have ax : aF 4 x (.int .i64 (i : Int)) = some (ptk x i 0) := aK hx (by rw [List.length_map]; exact hi) _
      have lx : (l.map upA)[i]? = some (upA l[i]) := by simp [hi]
      have ht : (l.take (i + 1)).map (mY fr) = (l.take i).map (mY fr) ++ [mY fr l[i]] := by rw [← List.take_append_getElem hi, List.map_append]; rfl
      have le : ∀ (ag : Bool) (s c : Nat), cG ag s (ptk x i c) H' = part ag s c (upA l[i]) := aO hx lx hp
      generalize l[i] = u at lx ht le
      have p0 : part false 1 0 (upA u) = some (.list 3 (u.f0.map eC) false) := rfl
      have p1 : part true 2 1 (upA u) = some (aQ u.f1) := rfl
      have p3 : part false 1 3 (upA u) = some (.int .i64 u.f2) := rfl
      simp only [push_cast, ↓reduceIte, Nat.reduceEqDiff, reduceCtorEq, Nat.reduceAdd, Nat.reduceLT, Nat.reduceLeDiff, aB, aA, e0, e1, e6, la, hi', ax, le, cO, Nat.zero_add, p0, p1, p3, exJ, hv]
      (refine aC.look (RZ fr u.f1 _ hf) ?_; simp only [push_cast, ↓reduceIte, Nat.reduceEqDiff, reduceCtorEq, Nat.reduceAdd, Nat.reduceLT, Nat.reduceLeDiff, aB, aA, exJ, e0, e1, e6, hv, aQ])
      refine ho.mono.xapp (aN hp) (xs := [upA (mY fr u)]) (bT (by simp)) (by simp only [List.length_map, List.length_take, List.length_cons, List.length_nil]; omega) fun v' H4 ho' hp' => ?_
      simp only [push_cast, ↓reduceIte, Nat.reduceEqDiff, reduceCtorEq, Nat.reduceAdd, Nat.reduceLT, Nat.reduceLeDiff, e0, e1, e6]
      refine ⟨i + 1, ⟨hp', hi, ?_, ?_⟩, by omega⟩
      · rw [w1]
      · rw [ht, List.map_append]; exact ho'
    · have hi' : ¬ (i : Int) < l.length := by omega
      simp only [push_cast, ↓reduceIte, Nat.reduceEqDiff, reduceCtorEq, Nat.reduceAdd, Nat.reduceLT, Nat.reduceLeDiff, e0, e1, e6, la, hi', hv]
      rw [List.take_of_length_le (by omega)] at ho
      obtain ⟨H3, w1, w2⟩ := ho.weak hp
      exact ⟨H3, w1, w2⟩
def lW (key : Int) (l : List Upd) (since : List Tm) : List Upd := if bW key l since = 0 then (bV (fG since l)).1 else []
def mK (key : Int) (l : List Upd) (since : List Tm) : AV := .tup [aZ (lW key l since), .int .i64 (bW key l since)]
theorem ID (n : Nat) (key : Int) (l : List Upd) (since : List Tm) : cl n (mK key l since) = true := by
  have : cl n (aZ (lW key l since)) = true := mG (oR n) _
  simp [mK, cl, cls, this]
theorem iW {key : Int} {l : List Upd} {since : List Tm} {c : Int} {H H' : AH} (h : bW key l since = c) (h0 : c ≠ 0) (hp : H <+: H') : ∃ H2, bZ H' (.tup [.nils, .int .i64 c]) H2 (mK key l since) ∧ H <+: H2 := by
  refine ⟨H', ?_, hp⟩
  rw [mK, lW, if_neg (by rw [h]; exact h0), h]
  exact bZ.tup (i := 0) (vs := [.nils, .int .i64 c]) (bZ.nils _ 4) rfl
theorem IE {key : Int} {l : List Upd} {since : List Tm} (h : bW key l since = (bV (fG since l)).2) : mK key l since = iS (fG since l) := by
  by_cases h0 : (bV (fG since l)).2 = 0
  · rw [mK, lW, if_pos (by rw [h]; exact h0), h, iS]
  · rw [mK, lW, if_neg (by rw [h]; exact h0), h, iS, rE _ h0]
def JW : AC := (.block 0 (.loop (.seq (.seq (.ops [oo 16 (.mov (.t 8)), oo 17 (.mov (.t 1)), oo 18 (.len (.t 17)), oo 19 (.bin .lss (.t 16) (.t 18))]) (.cond (.t 19) .skip (.exit 0))) (.seq (.block 1 (.seq (.ops [oo 22 (.mov (.t 1)), oo 23 (.mov (.t 8)), oo 24 (.iaddr 4 (.t 22) (.t 23)), oo 25 (.faddr 0 (.t 24)), oo 26 (.load false 1 (.t 25)), oo 27 (.len (.t 26)), oo 28 (.mov (.t 0)), oo 29 (.bin .lss (.t 27) (.t 28))]) (.cond (.t 29) (.seq (.ops [oo 6 (.mov (.v .nils)), oo 7 (.mov (.v (.int .i64 9)))]) .ret) .skip))) (.ops [oo 20 (.mov (.t 8)), oo 21 (.bin .add (.t 20) (.v (.int .i64 1))), oo 8 (.mov (.t 21))])))))
def F10 : AFn := ⟨45, 3, [.t 6, .t 7], (.seq (.ops [oo 6 (.mov (.v .nils)), oo 7 (.mov (.v (.int .i64 0)))]) (.seq (.seq (.ops [oo 10 (.mov (.t 0)), oo 11 (.bin .lss (.t 10) (.v (.int .i64 0))), oo 12 (.mov (.t 11)), og 13 12 false (.mov (.t 0)), og 14 12 false (.bin .gtr (.t 13) (.v (.int .i64 16))), oo 15 (.pick (.t 12) (.v (.bool true)) (.t 14))]) (.cond (.t 15) (.seq (.ops [oo 6 (.mov (.v .nils)), oo 7 (.mov (.v (.int .i64 1)))]) .ret) .skip)) (.seq (.seq (.ops [oo 8 (.mov (.v (.int .i64 0)))]) (JW)) (.seq (.ops [oo 30 (.mov (.t 2)), oo 31 (.call 57 [(.t 30)]), oo 9 (.mov (.t 31))]) (.seq (.seq (.ops [oo 32 (.mov (.t 9)), oo 33 (.bin .neq (.t 32) (.v (.int .i64 0)))]) (.cond (.t 33) (.seq (.ops [oo 34 (.mov (.t 9)), oo 6 (.mov (.v .nils)), oo 7 (.mov (.t 34))]) .ret) .skip)) (.seq (.seq (.ops [oo 35 (.mov (.t 2)), oo 36 (.len (.t 35)), oo 37 (.bin .gtr (.t 36) (.v (.int .i64 0)))]) (.cond (.t 37) (.ops [oo 38 (.mov (.t 1)), oo 39 (.mov (.t 2)), oo 40 (.call 58 [(.t 38), (.t 39)]), oo 1 (.mov (.t 40))]) .skip)) (.seq (.ops [oo 41 (.mov (.t 1)), oo 42 (.call 59 [(.t 41)]), oo 43 (.ext (.t 42) 0), oo 44 (.ext (.t 42) 1), oo 6 (.mov (.t 43)), oo 7 (.mov (.t 44))]) .ret)))))))⟩
theorem c10 : aD Tryz.prog 10 = some F10 := by kernel_rfl
theorem SD (key : Int) (x y : AV) (l : List Upd) (since : List Tm) (H : AH) (hx : elems 4 x H = some (l.map upA)) (hl : l.length < 16777216) (hs : cI l) (hw : ∀ u ∈ l, okI u.f2) (hy : elems 2 y H = some (since.map aQ)) (hsl : since.length < 1099511627776) (hy2 : since ≠ [] → y = eJ since) :
    aC Tryz.prog 10 [.int .i64 key, x, y] H fun r H' => r = mK key l since ∧ H' = H := by
  refine aW c10 (v := mK key l since) (fun n => ID n key l since) (by simp [F10]) ?_
  unfold F10
  have la := aL hx
  rw [List.length_map] at la
  have one : (key < 0 ∨ key > 16) → bW key l since = 1 := fun h => by rw [bW, if_pos h]
  by_cases h1 : key < 0
  · simp only [push_cast, ↓reduceIte, Nat.reduceEqDiff, reduceCtorEq, Nat.reduceAdd, Nat.reduceLT, Nat.reduceLeDiff, h1, decide_true]
    exact iW (one (.inl h1)) (by decide) (List.prefix_refl _)
  by_cases h2 : key > 16
  · simp only [push_cast, ↓reduceIte, Nat.reduceEqDiff, reduceCtorEq, Nat.reduceAdd, Nat.reduceLT, Nat.reduceLeDiff, h1, h2, decide_true, decide_false]
    exact iW (one (.inr h2)) (by decide) (List.prefix_refl _)
  have hc0 : bW key l since = if dB key l = true then 9 else if eF since ≠ 0 then eF since else (bV (fG since l)).2 := by rw [bW, if_neg (by omega)]
  simp only [push_cast, ↓reduceIte, Nat.reduceEqDiff, reduceCtorEq, Nat.reduceAdd, Nat.reduceLT, Nat.reduceLeDiff, h1, h2, decide_false]
  unfold JW
  simp only [push_cast, ↓reduceIte, Nat.reduceEqDiff, reduceCtorEq, Nat.reduceAdd, Nat.reduceLT, Nat.reduceLeDiff]
  refine aI (fun (i : Nat) f H' => H' = H ∧ i ≤ l.length ∧ f 0 = .int .i64 key ∧ f 1 = x ∧ f 2 = y ∧ f 8 = .int .i64 i ∧ dB key l = dB key (l.drop i)) (fun i => l.length - i) 0 ⟨rfl, Nat.zero_le _, rfl, rfl, rfl, rfl, rfl⟩ ?_
  rintro i f H' ⟨hh, h3, e0, e1, e2, e8, hd⟩
  subst hh
  by_cases hi : i < l.length
  · have hi' : (i : Int) < l.length := by omega
    have w1 : IntKind.i64.wrap ((i : Int) + 1) = ((i + 1 : Nat) : Int) := by rw [aE (by omega) (by omega)]; omega
    have ax : aF 4 x (.int .i64 (i : Int)) = some (ptk x i 0) := aK hx (by rw [List.length_map]; exact hi) _
    have lx : (l.map upA)[i]? = some (upA l[i]) := by simp [hi]
    have le : ∀ (ag : Bool) (s c : Nat), cG ag s (ptk x i c) H' = part ag s c (upA l[i]) := aO hx lx (List.prefix_refl H')
    have p0 : ∀ u : Upd, part false 1 0 (upA u) = some (.list 3 (u.f0.map eC) false) := fun _ => rfl
    rw [List.drop_eq_getElem_cons hi] at hd
    by_cases hk : (l[i].f0.length : Int) < key
    · have hd2 : dB key l = true := by rw [hd, dB, List.any_cons, decide_eq_true hk]; rfl
      rw [hd2, if_pos rfl] at hc0
      simp only [push_cast, ↓reduceIte, Nat.reduceEqDiff, reduceCtorEq, Nat.reduceAdd, Nat.reduceLT, Nat.reduceLeDiff, aB, aA, e0, e1, e2, e8, la, hi', ax, le, cO, Nat.zero_add, p0, List.length_map, hk, decide_true]
      exact iW hc0 (by decide) (List.prefix_refl _)
    · have hd2 : dB key l = dB key (l.drop (i + 1)) := by rw [hd, dB, List.any_cons, decide_eq_false hk]; rfl
      simp only [push_cast, ↓reduceIte, Nat.reduceEqDiff, reduceCtorEq, Nat.reduceAdd, Nat.reduceLT, Nat.reduceLeDiff, aB, aA, e0, e1, e2, e8, la, hi', ax, le, cO, Nat.zero_add, p0, List.length_map, hk, decide_false]
      exact ⟨i + 1, ⟨hi, by rw [w1], hd2⟩, by omega⟩
  · have hi' : ¬ (i : Int) < l.length := by omega
    rw [List.drop_eq_nil_of_le (by omega)] at hd
    rw [show dB key l = false from hd, if_neg (by decide)] at hc0
    have lb := aL hy
    rw [List.length_map] at lb
    simp only [push_cast, ↓reduceIte, Nat.reduceEqDiff, reduceCtorEq, Nat.reduceAdd, Nat.reduceLT, Nat.reduceLeDiff, aB, aA, e0, e1, e2, e8, la, hi']
    (refine aC.look (HZ y since _ hy hsl) ?_; simp only [push_cast, ↓reduceIte, Nat.reduceEqDiff, reduceCtorEq, Nat.reduceAdd, Nat.reduceLT, Nat.reduceLeDiff, aB, aA, e0, e1, e2])
    by_cases hf : eF since = 0
    · rw [if_neg (by simpa using hf)] at hc0
      rw [IE hc0]
      by_cases hz : since = []
      · have e : fG since l = l := by rw [fG, if_pos hz]
        rw [e]
        have lb0 : ¬ ((since.length : Nat) : Int) > 0 := by rw [hz]; decide
        simp only [push_cast, ↓reduceIte, Nat.reduceEqDiff, reduceCtorEq, Nat.reduceAdd, Nat.reduceLT, Nat.reduceLeDiff, aB, aA, hf, lb, lb0, decide_false, e0, e1, e2]
        (refine aC.look (EE x l _ hx hl hs hw) ?_; simp only [push_cast, ↓reduceIte, Nat.reduceEqDiff, reduceCtorEq, Nat.reduceAdd, Nat.reduceLT, Nat.reduceLeDiff, aB, aA, e0, e1, e2, iS])
        exact ⟨_, bZ.refl _ _, List.prefix_refl _⟩
      · have e : fG since l = l.map (mY since) := by rw [fG, if_neg hz]
        rw [e]
        have lb0 : ((since.length : Nat) : Int) > 0 := by have := List.length_pos_iff.2 hz; omega
        rw [hy2 hz] at e2
        have lb2 : cZ (eJ since) = some since.length := by simp [eJ, cZ]
        rw [hy2 hz]
        simp only [push_cast, ↓reduceIte, Nat.reduceEqDiff, reduceCtorEq, Nat.reduceAdd, Nat.reduceLT, Nat.reduceLeDiff, aB, aA, hf, lb2, lb0, decide_true, e0, e1, e2]
        (refine aC.look (xX x l since _ hx (by omega) hsl) ?_; simp only [push_cast, ↓reduceIte, Nat.reduceEqDiff, reduceCtorEq, Nat.reduceAdd, Nat.reduceLT, Nat.reduceLeDiff, aB, aA, e0, e1, e2])
        (refine aC.look (EE (aZ (l.map (mY since))) (l.map (mY since)) _ rfl (by rw [List.length_map]; exact hl) (fun u hu => by obtain ⟨v, hv, rfl⟩ := List.mem_map.1 hu; exact hs v hv) (fun u hu => by obtain ⟨v, hv, rfl⟩ := List.mem_map.1 hu; exact hw v hv)) ?_; simp only [push_cast, ↓reduceIte, Nat.reduceEqDiff, reduceCtorEq, Nat.reduceAdd, Nat.reduceLT, Nat.reduceLeDiff, aB, aA, e0, e1, e2, iS])
        exact ⟨_, bZ.refl _ _, List.prefix_refl _⟩
    · rw [if_pos hf] at hc0
      simp only [push_cast, ↓reduceIte, Nat.reduceEqDiff, reduceCtorEq, Nat.reduceAdd, Nat.reduceLT, Nat.reduceLeDiff, aB, aA, hf, e0, e1, e2]
      exact iW hc0 hf (List.prefix_refl _)
end Go.Eng
end
