/- PSeek, KMuch, KLive10, KOpen, KOpenU, KOpenL, KMade10, LSeekAll. -/
import Derived.Test.YtpflmgbpjhbmnaaGreatQSa4
import Derived.Test.YtpflmgbpjhbmnaaGreatQSa2
import Derived.Test.YtpflmgbpjhbmnaaGreatQSa3
import Derived.Deep.Slices
import Derived.ChangeArms
import Derived.Below
import Derived.KernelRfl
section
set_option linter.unusedVariables false
set_option linter.unusedSimpArgs false
namespace Go.Eng
open Go
theorem pO : ∀ (l l' : List Nat) (a : Nat), gW a l = gW a l' → l = l'
  | [], [], _, _ => rfl
  | [], _ :: _, _, h => by simp [gW] at h
  | _ :: _, [], _, h => by simp [gW] at h
  | n :: r, m :: s, a, h => by
    simp only [gW, List.cons.injEq] at h
    have e : n = m := by omega
    subst e
    rw [pO r s _ h.2]
theorem pP {α : Type} : ∀ (l l' : List (List α)), l.map List.length = l'.map List.length → l.flatten = l'.flatten → l = l'
  | [], [], _, _ => rfl
  | [], _ :: _, h, _ => by simp at h
  | _ :: _, [], h, _ => by simp at h
  | x :: r, y :: s, h, h2 => by
    simp only [List.map_cons, List.cons.injEq] at h
    simp only [List.flatten_cons] at h2
    obtain ⟨h3, h4⟩ := List.append_inj h2 h.1
    rw [h3, pP r s h.2 h4]
theorem kH {α β : Type} : ∀ (l l' : List (α × β)), l.map (·.1) = l'.map (·.1) → l.map (·.2) = l'.map (·.2) → l = l'
  | [], [], _, _ => rfl
  | [], _ :: _, h, _ => by simp at h
  | _ :: _, [], h, _ => by simp at h
  | (a, b) :: r, (c, d) :: s, h, h2 => by
    simp only [List.map_cons, List.cons.injEq] at h h2
    rw [h.1, h2.1, kH r s h.2 h2.2]
theorem NQ {b : Bt} {g g' : Gr} (h : Gs b g) (h' : Gs b g') : g = g' := by
  have e1 : g.map (·.1) = g'.map (·.1) := h.keys.symm.trans h'.keys
  have e2 := pO _ _ _ (h.kends.symm.trans h'.kends)
  have e3 := pO _ _ _ (h.rends.symm.trans h'.rends)
  have e4 : (g.flatMap (·.2)).map (·.1) = (g'.flatMap (·.2)).map (·.1) := h.rests.symm.trans h'.rests
  have e5 := kH _ _ (h.times.symm.trans h'.times) (h.ws.symm.trans h'.ws)
  have e6 : (g.flatMap (·.2)).map (·.2) = (g'.flatMap (·.2)).map (·.2) := by
    refine pP _ _ ?_ ?_
    · rw [List.map_map, List.map_map]; exact e3
    · rw [← List.flatMap_def, ← List.flatMap_def]; exact e5
  have e7 := kH _ _ e4 e6
  refine kH _ _ e1 (pP _ _ ?_ ?_)
  · rw [List.map_map, List.map_map]; exact e2
  · rw [← List.flatMap_def, ← List.flatMap_def]; exact e7
open Classical in
noncomputable def gfB (b : Bt) : Gr := if h : ∃ g, Gs b g then h.choose else []
theorem JX {b : Bt} {g : Gr} (h : Gs b g) : gfB b = g := by
  unfold gfB
  rw [dif_pos ⟨g, h⟩]
  exact NQ (Exists.choose_spec ⟨g, h⟩) h
theorem jJ : ∀ (ps : List Pl) (o : Option (List Val)), (ps.foldl gX o = none → o = none ∧ ∀ p ∈ ps, p.key = none) ∧ ∀ k, ps.foldl gX o = some k → (∀ x, o = some x → bG k x ≤ 0) ∧ ∀ p ∈ ps, ∀ x, p.key = some x → bG k x ≤ 0
  | [], o => ⟨fun h => ⟨h, fun p hp => absurd hp List.not_mem_nil⟩, fun k h => ⟨fun x hx => by
      have h' : o = some k := h
      rw [hx] at h'; cases h'; rw [eQ]; exact Int.le_refl _, fun p hp => absurd hp List.not_mem_nil⟩⟩
  | p :: r, o => by
    obtain ⟨i1, i2⟩ := jJ r (gX o p)
    rw [List.foldl_cons]
    constructor
    · intro h
      obtain ⟨h1, h2⟩ := i1 h
      unfold gX at h1
      cases hk : p.key with
      | none =>
        rw [hk] at h1
        exact ⟨h1, fun q hq => by rcases List.mem_cons.1 hq with rfl | hq; exact hk; exact h2 q hq⟩
      | some x =>
        rw [hk] at h1
        dsimp only at h1
        split at h1
        · cases h1
        · rename_i hc
          subst h1
          exact absurd rfl hc
    · intro k h
      obtain ⟨h1, h2⟩ := i2 k h
      have key : (∀ x, o = some x → bG k x ≤ 0) ∧ (∀ x, p.key = some x → bG k x ≤ 0) := by
        unfold gX at h1
        cases hk : p.key with
        | none => rw [hk] at h1; exact ⟨h1, fun x e => by cases e⟩
        | some y =>
          rw [hk] at h1
          dsimp only at h1
          cases ho : o with
          | none =>
            rw [ho, if_pos (show rH y none = true from rfl)] at h1
            exact ⟨fun x e => (by cases e), fun x e => (by cases e; exact h1 y rfl)⟩
          | some z =>
            rw [ho] at h1
            by_cases hc : bG y z < 0
            · rw [if_pos (show rH y (some z) = true from decide_eq_true hc)] at h1
              have h3 := h1 y rfl
              exact ⟨fun x e => (by cases e; have := dP h3 hc; omega), fun x e => (by cases e; exact h3)⟩
            · rw [if_neg (by simpa [rH] using hc)] at h1
              have h3 := h1 z rfl
              have h4 : bG z y ≤ 0 := by have := cV y z; omega
              exact ⟨fun x e => (by cases e; exact h3), fun x e => (by cases e; exact fQ _ _ _ h3 h4)⟩
      exact ⟨key.1, fun q hq => by rcases List.mem_cons.1 hq with rfl | hq; exact key.2; exact h2 q hq⟩
theorem xY {ps : List Pl} (h : cJ ps = none) : ∀ p ∈ ps, p.key = none := ((jJ ps none).1 h).2
theorem vT {ps : List Pl} {k : List Val} (h : cJ ps = some k) : ∀ p ∈ ps, ∀ x, p.key = some x → bG k x ≤ 0 := ((jJ ps none).2 k h).2
theorem rS {ps : List Pl} {k : List Val} (h : cJ ps = some k) : ∃ p ∈ ps, p.key = some k := by
  rcases jE ps none k h with e | e
  · cases e
  · exact e
structure yE (n : Nat) (gf : Bt → Gr) (ps : List Pl) : Prop where
  gs : ∀ p ∈ ps, Gs p.b (gf p.b)
  lt : ∀ p ∈ ps, (gf p.b).Pairwise fun a b => bG a.1 b.1 < 0
  kl : ∀ p ∈ ps, ∀ x ∈ gf p.b, x.1.length = n
  at_ : ∀ p ∈ ps, p.at_ ≤ p.b.keys.length
theorem pQ {n : Nat} {gf : Bt → Gr} {ps : List Pl} (I : yE n gf ps) {p : Pl} (hp : p ∈ ps) {x : List Val} (h : p.key = some x) : ∃ hi : p.at_ < (gf p.b).length, (gf p.b)[p.at_].1 = x := by
  unfold Pl.key at h
  rw [(I.gs p hp).keys, List.getElem?_map] at h
  cases hg : (gf p.b)[p.at_]? with
  | none => rw [hg] at h; cases h
  | some y =>
    rw [hg] at h
    obtain ⟨h1, h2⟩ := List.getElem?_eq_some_iff.1 hg
    cases h
    exact ⟨h1, by rw [h2]⟩
theorem eT {k : List Val} {p : Pl} : eN k p = true ↔ ∃ x, p.key = some x ∧ bG x k = 0 := by
  unfold eN
  cases p.key with
  | none => simp
  | some x => simp
theorem nE {ps : List Pl} {k : List Val} (h : cJ ps = some k) : jW ps = ps.map fun p => if eN k p = true then jF p else p := by
  unfold jW
  rw [h]
theorem yE.next {n : Nat} {gf : Bt → Gr} {ps : List Pl} (I : yE n gf ps) {k : List Val} (h : cJ ps = some k) : yE n gf (jW ps) ∧ ∀ p ∈ jW ps, ∀ x, p.key = some x → bG k x < 0 := by
  rw [nE h]
  have hb : ∀ p' ∈ ps.map (fun p => if eN k p = true then jF p else p), ∃ p ∈ ps, p'.b = p.b := fun p' hp' => by
    obtain ⟨p, hp, rfl⟩ := List.mem_map.1 hp'
    refine ⟨p, hp, ?_⟩
    split <;> rfl
  refine ⟨⟨fun p' hp' => ?_, fun p' hp' => ?_, fun p' hp' => ?_, fun p' hp' => ?_⟩, fun p' hp' x hx => ?_⟩
  · obtain ⟨p, hp, e⟩ := hb p' hp'; rw [e]; exact I.gs p hp
  · obtain ⟨p, hp, e⟩ := hb p' hp'; rw [e]; exact I.lt p hp
  · obtain ⟨p, hp, e⟩ := hb p' hp'; rw [e]; exact I.kl p hp
  · obtain ⟨p, hp, rfl⟩ := List.mem_map.1 hp'
    split
    · rename_i ha
      obtain ⟨x, hx, _⟩ := eT.1 ha
      obtain ⟨hi, _⟩ := pQ I hp hx
      have hl : p.b.keys.length = (gf p.b).length := by rw [(I.gs p hp).keys, List.length_map]
      show p.at_ + 1 ≤ p.b.keys.length
      omega
    · exact I.at_ p hp
  · obtain ⟨p, hp, rfl⟩ := List.mem_map.1 hp'
    by_cases ha : eN k p = true
    · rw [if_pos ha] at hx
      obtain ⟨y, hy, hyk⟩ := eT.1 ha
      obtain ⟨hi, e⟩ := pQ I hp hy
      have hx2 : (jF p).key = ((gf p.b)[p.at_ + 1]?).map (·.1) := by
        unfold Pl.key jF
        rw [(I.gs p hp).keys, List.getElem?_map]
      rw [hx2] at hx
      cases hg : (gf p.b)[p.at_ + 1]? with
      | none => rw [hg] at hx; cases hx
      | some z =>
        rw [hg] at hx
        cases hx
        obtain ⟨h1, h2⟩ := List.getElem?_eq_some_iff.1 hg
        have := List.pairwise_iff_getElem.1 (I.lt p hp) p.at_ (p.at_ + 1) hi h1 (Nat.lt_succ_self _)
        rw [e, h2] at this
        have hky : bG k y ≤ 0 := vT h p hp y hy
        exact dP hky this
    · rw [if_neg ha] at hx
      have h1 := vT h p hp x hx
      have h2 : bG x k ≠ 0 := fun e => ha (eT.2 ⟨x, hx, e⟩)
      have := cV x k
      omega
def ES (gf : Bt → Gr) (p : Pl) : Nat := (((gf p.b).drop p.at_).flatMap mI).length
def EF (gf : Bt → Gr) (ps : List Pl) : Nat := (ps.map (ES gf)).sum
theorem IG {n : Nat} {gf : Bt → Gr} {ps : List Pl} (I : yE n gf ps) {k : List Val} (h : cJ ps = some k) : EF gf ps = (eG gf ps).length + EF gf (jW ps) := by
  rw [nE h]
  unfold eG EF
  rw [h]
  dsimp only
  have hgs := I.gs
  have key : ∀ l : List Pl, (∀ p ∈ l, Gs p.b (gf p.b)) → (l.map (ES gf)).sum = ((l.filter (eN k)).flatMap (fE gf)).length + ((l.map fun p => if eN k p = true then jF p else p).map (ES gf)).sum := by
    intro l
    induction l with
    | nil => intro _; rfl
    | cons p r ih =>
      intro hl
      have ihr := ih (fun q hq => hl q (List.mem_cons_of_mem _ hq))
      simp only [List.map_cons, List.sum_cons]
      by_cases ha : eN k p = true
      · rw [List.filter_cons, if_pos ha, if_pos ha, List.flatMap_cons, List.length_append]
        obtain ⟨x, hx, _⟩ := eT.1 ha
        have hx2 : p.key = ((gf p.b)[p.at_]?).map (·.1) := by
          unfold Pl.key
          rw [(hl p List.mem_cons_self).keys, List.getElem?_map]
        have e : ES gf p = (fE gf p).length + ES gf (jF p) := by
          cases hg : (gf p.b)[p.at_]? with
          | none => rw [hx2, hg] at hx; cases hx
          | some z =>
            obtain ⟨h1, h2⟩ := List.getElem?_eq_some_iff.1 hg
            unfold ES fE jF
            rw [hg]
            dsimp only
            rw [List.drop_eq_getElem_cons h1, h2, List.flatMap_cons, List.length_append]
        omega
      · rw [List.filter_cons, if_neg ha, if_neg ha]
        omega
  exact key ps hgs
theorem NR {b : Bt} {g : Gr} (G : Gs b g) {x : List Val × List Rst} (hx : x ∈ g) : mI x ≠ [] := by
  have h1 := G.ne1 x hx
  cases hy : x.2 with
  | nil => exact absurd hy h1
  | cons y r =>
    have h2 := G.ne2 y (List.mem_flatMap.2 ⟨x, hx, by rw [hy]; exact List.mem_cons_self⟩)
    cases hz : y.2 with
    | nil => exact absurd hz h2
    | cons z s => simp [mI, mX, hy, hz]
theorem NS {n : Nat} {gf : Bt → Gr} {ps : List Pl} (I : yE n gf ps) {k : List Val} (h : cJ ps = some k) : 0 < (eG gf ps).length := by
  obtain ⟨p, hp, hk⟩ := rS h
  obtain ⟨hi, e⟩ := pQ I hp hk
  unfold eG
  rw [h]
  dsimp only
  have hm : p ∈ ps.filter (eN k) := List.mem_filter.2 ⟨hp, eT.2 ⟨k, hk, eQ k⟩⟩
  refine List.length_pos_iff.2 fun e2 => ?_
  rw [List.flatMap_eq_nil_iff] at e2
  have := e2 p hm
  unfold fE at this
  rw [List.getElem?_eq_getElem hi] at this
  exact NR (I.gs p hp) (List.getElem_mem hi) this
theorem IH {n : Nat} {gf : Bt → Gr} {ps : List Pl} (I : yE n gf ps) {k : List Val} (h : cJ ps = some k) : ∀ u ∈ eG gf ps, n ≤ u.f0.length ∧ bG (u.f0.take n) k = 0 := by
  intro u hu
  unfold eG at hu
  rw [h] at hu
  dsimp only at hu
  obtain ⟨p, hp, hu⟩ := List.mem_flatMap.1 hu
  obtain ⟨hp1, ha⟩ := List.mem_filter.1 hp
  obtain ⟨x, hx, hxk⟩ := eT.1 ha
  obtain ⟨hi, e⟩ := pQ I hp1 hx
  unfold fE at hu
  rw [List.getElem?_eq_getElem hi] at hu
  dsimp only at hu
  have hl := I.kl p hp1 _ (List.getElem_mem hi)
  unfold mI mX at hu
  obtain ⟨y, _, hu⟩ := List.mem_flatMap.1 hu
  obtain ⟨z, _, rfl⟩ := List.mem_map.1 hu
  dsimp only
  rw [e] at hl ⊢
  refine ⟨by rw [List.length_append]; omega, ?_⟩
  rw [List.take_left' hl]
  exact hxk
theorem kI {key : Int} {l : List Upd} (h : bW key l [] = 0) : lW key l [] = (bV l).1 := by
  unfold lW
  rw [if_pos h]
  rfl
theorem lX {key : Int} {l : List Upd} {since : List Tm} (h : bW key l since = 0) : 0 ≤ key ∧ key ≤ 16 ∧ ∀ u ∈ l, key.toNat ≤ u.f0.length := by
  unfold bW at h
  split at h
  · cases h
  · rename_i h1
    split at h
    · cases h
    · rename_i h2
      refine ⟨by omega, by omega, fun u hu => ?_⟩
      rw [Bool.not_eq_true] at h2
      have := List.any_eq_false.1 h2 u hu
      simp only [decide_eq_true_eq] at this
      omega
theorem EG {key : Int} {l : List Upd} (h : bW key l [] = 0) : GI key.toNat (lW key l []) (MZ key l []) := by
  obtain ⟨h1, h2, h3⟩ := lX h
  rw [kI h]
  refine NE key.toNat (bV l).1 (DJ l) fun u hu => ?_
  obtain ⟨v, hv, e, _⟩ := (eR l).2 u hu
  rw [e]
  exact h3 v hv
theorem NT {key : Int} {l : List Upd} (h : bW key l [] = 0) : ∀ x ∈ MZ key l [], x.1.length = key.toNat := fun x hx => by
  obtain ⟨v, hv, e⟩ := (EG h).mem x hx
  rw [kI h] at hv
  obtain ⟨w, hw, e2, _⟩ := (eR l).2 v hv
  have := (lX h).2.2 w hw
  rw [← e, e2, List.length_take]
  omega
def ET (key : Int) (L : List (List Upd)) : List Pl := L.map fun l => ⟨iT key l [], 0⟩
theorem II {key : Int} {L : List (List Upd)} (h : ∀ l ∈ L, bW key l [] = 0) : yE key.toNat gfB (ET key L) := by
  have e : ∀ l, gfB (iT key l []) = MZ key l [] := fun l => JX (lP key l [])
  refine ⟨fun p hp => ?_, fun p hp => ?_, fun p hp => ?_, fun p hp => ?_⟩ <;> obtain ⟨l, hl, rfl⟩ := List.mem_map.1 hp
  · dsimp only; rw [e]; exact lP key l []
  · dsimp only; rw [e]; exact (EG (h l hl)).lt
  · dsimp only; rw [e]; exact NT (h l hl)
  · exact Nat.zero_le _
theorem IJ {key : Int} {L : List (List Upd)} (h : ∀ l ∈ L, bW key l [] = 0) : EF gfB (ET key L) = (L.map fun l => (lW key l []).length).sum := by
  unfold EF ET
  rw [List.map_map]
  congr 1
  refine List.map_congr_left fun l hl => ?_
  show ES gfB ⟨iT key l [], 0⟩ = _
  unfold ES
  rw [List.drop_zero]
  dsimp only
  rw [JX (lP key l [])]
  have h1 : ((MZ key l []).flatMap mI).length = ((MZ key l []).flatMap (·.2) |>.flatMap (·.2)).length := by
    unfold mI mX
    induction MZ key l [] with
    | nil => rfl
    | cons x r ih =>
      simp only [List.flatMap_cons, List.length_append, List.flatMap_append, ih]
      congr 1
      induction x.2 with
      | nil => rfl
      | cons y s ih2 => simp only [List.flatMap_cons, List.length_append, List.length_map, ih2]
  have h2 := congrArg List.length (lP key l []).times
  rw [List.length_map] at h2
  rw [h1, ← h2, (kE key l []).2.2.2, List.length_map, kI (h l hl)]
  rfl
end Go.Eng
end
section
set_option linter.unusedVariables false
set_option linter.unusedSimpArgs false
set_option maxRecDepth 10000
namespace Go.Eng
open Go Go.Proofs
def jY (r : List Val) : Bool := decide (r.length > 30) || r.any fun v => decide (v.f2.size > 5000)
def eI (l : List Upd) : Bool := decide (l.length > 60) || l.any fun u => jY u.f0
def F38 : AFn := ⟨20, 1, [.t 2], (.seq (.ops [oo 2 (.mov (.v (.bool false)))]) (.seq (.seq (.ops [oo 4 (.mov (.t 0)), oo 5 (.len (.t 4)), oo 6 (.bin .gtr (.t 5) (.v (.int .i64 30)))]) (.cond (.t 6) (.seq (.ops [oo 2 (.mov (.v (.bool true)))]) .ret) .skip)) (.seq (.seq (.ops [oo 3 (.mov (.v (.int .i64 0)))]) (.block 0 (.loop (.seq (.seq (.ops [oo 7 (.mov (.t 3)), oo 8 (.mov (.t 0)), oo 9 (.len (.t 8)), oo 10 (.bin .lss (.t 7) (.t 9))]) (.cond (.t 10) .skip (.exit 0))) (.seq (.block 1 (.seq (.ops [oo 13 (.mov (.t 0)), oo 14 (.mov (.t 3)), oo 15 (.iaddr 3 (.t 13) (.t 14)), oo 16 (.faddr 2 (.t 15)), oo 17 (.load false 1 (.t 16)), oo 18 (.slen (.t 17)), oo 19 (.bin .gtr (.t 18) (.v (.int .i64 5000)))]) (.cond (.t 19) (.seq (.ops [oo 2 (.mov (.v (.bool true)))]) .ret) .skip))) (.ops [oo 11 (.mov (.t 3)), oo 12 (.bin .add (.t 11) (.v (.int .i64 1))), oo 3 (.mov (.t 12))])))))) (.seq (.ops [oo 2 (.mov (.v (.bool false)))]) .ret))))⟩
theorem c38 : aD Tryz.prog 38 = some F38 := by kernel_rfl
theorem SE (x : AV) (r : List Val) (H : AH) (hx : elems 3 x H = some (r.map eC)) : aC Tryz.prog 38 [x] H fun y H' => y = .bool (jY r) ∧ H' = H := by
  refine aG c38 (fun _ => rfl) (by simp [F38]) ?_
  unfold F38
  have la := aL hx
  rw [List.length_map] at la
  by_cases h0 : r.length > 30
  · have h0' : (r.length : Int) > 30 := by omega
    simp only [push_cast, ↓reduceIte, Nat.reduceEqDiff, reduceCtorEq, Nat.reduceAdd, Nat.reduceLT, Nat.reduceLeDiff, aB, aA, la, h0']
    exact ⟨List.prefix_refl _, by simp [jY, h0]⟩
  · have h0' : ¬ (r.length : Int) > 30 := by omega
    simp only [push_cast, ↓reduceIte, Nat.reduceEqDiff, reduceCtorEq, Nat.reduceAdd, Nat.reduceLT, Nat.reduceLeDiff, aB, aA, la, h0']
    refine aI (fun (i : Nat) f H' => H <+: H' ∧ i ≤ r.length ∧ f 0 = x ∧ f 3 = .int .i64 i ∧ (r.take i).any (fun v => decide (v.f2.size > 5000)) = false) (fun i => r.length - i) 0 ⟨List.prefix_refl _, Nat.zero_le _, rfl, rfl, rfl⟩ ?_
    rintro i f H' ⟨hp, h1, e0, e3, hs⟩
    by_cases hi : i < r.length
    · have hi' : (i : Int) < r.length := by omega
      have ax : aF 3 x (.int .i64 (i : Int)) = some (ptk x i 0) := aK hx (by rw [List.length_map]; exact hi) _
      have lx : (r.map eC)[i]? = some (eC r[i]) := by simp [hi]
      have hsn : (r.take (i + 1)).any (fun v => decide (v.f2.size > 5000)) = ((r.take i).any (fun v => decide (v.f2.size > 5000)) || decide (r[i].f2.size > 5000)) := by rw [List.take_succ_eq_append_getElem hi, List.any_append]; simp
      have hm := List.getElem_mem hi
      generalize r[i] = v at lx hsn hm
      have pv : part false 1 2 (eC v) = some (.str v.f2) := rfl
      by_cases hc : v.f2.size > 5000
      · have hc' : (v.f2.size : Int) > 5000 := by omega
        simp only [push_cast, ↓reduceIte, Nat.reduceEqDiff, reduceCtorEq, Nat.reduceAdd, Nat.reduceLT, Nat.reduceLeDiff, aB, aA, e0, e3, la, hi', ax, cO, aO hx lx, hp, pv, hc']
        have : jY r = true := by
          unfold jY
          rw [Bool.or_eq_true]
          exact .inr (List.any_eq_true.2 ⟨v, hm, by simpa using hc⟩)
        rw [this]
      · have hc' : ¬ (v.f2.size : Int) > 5000 := by omega
        simp only [push_cast, ↓reduceIte, Nat.reduceEqDiff, reduceCtorEq, Nat.reduceAdd, Nat.reduceLT, Nat.reduceLeDiff, aB, aA, e0, e3, la, hi', ax, cO, aO hx lx, hp, pv, hc']
        refine ⟨i + 1, ⟨hi, ?_, ?_⟩, by omega⟩
        · rw [aE (by omega) (by omega)]; simp
        · rw [hsn, hs]; simpa using hc
    · have hi' : ¬ (i : Int) < r.length := by omega
      simp only [push_cast, ↓reduceIte, Nat.reduceEqDiff, reduceCtorEq, Nat.reduceAdd, Nat.reduceLT, Nat.reduceLeDiff, aB, aA, e0, e3, la, hi']
      rw [List.take_of_length_le (by omega)] at hs
      exact ⟨hp, by simp only [jY, hs]; simp; omega⟩
def F7 : AFn := ⟨19, 1, [.t 2], (.seq (.ops [oo 2 (.mov (.v (.bool false)))]) (.seq (.seq (.ops [oo 4 (.mov (.t 0)), oo 5 (.len (.t 4)), oo 6 (.bin .gtr (.t 5) (.v (.int .i64 60)))]) (.cond (.t 6) (.seq (.ops [oo 2 (.mov (.v (.bool true)))]) .ret) .skip)) (.seq (.seq (.ops [oo 3 (.mov (.v (.int .i64 0)))]) (.block 0 (.loop (.seq (.seq (.ops [oo 7 (.mov (.t 3)), oo 8 (.mov (.t 0)), oo 9 (.len (.t 8)), oo 10 (.bin .lss (.t 7) (.t 9))]) (.cond (.t 10) .skip (.exit 0))) (.seq (.block 1 (.seq (.ops [oo 13 (.mov (.t 0)), oo 14 (.mov (.t 3)), oo 15 (.iaddr 4 (.t 13) (.t 14)), oo 16 (.faddr 0 (.t 15)), oo 17 (.load false 1 (.t 16)), oo 18 (.call 38 [(.t 17)])]) (.cond (.t 18) (.seq (.ops [oo 2 (.mov (.v (.bool true)))]) .ret) .skip))) (.ops [oo 11 (.mov (.t 3)), oo 12 (.bin .add (.t 11) (.v (.int .i64 1))), oo 3 (.mov (.t 12))])))))) (.seq (.ops [oo 2 (.mov (.v (.bool false)))]) .ret))))⟩
theorem c7 : aD Tryz.prog 7 = some F7 := by kernel_rfl
theorem SF (x : AV) (l : List Upd) (H : AH) (hx : elems 4 x H = some (l.map upA)) : aC Tryz.prog 7 [x] H fun y H' => y = .bool (eI l) ∧ H' = H := by
  refine aG c7 (fun _ => rfl) (by simp [F7]) ?_
  unfold F7
  have la := aL hx
  rw [List.length_map] at la
  by_cases h0 : l.length > 60
  · have h0' : (l.length : Int) > 60 := by omega
    simp only [push_cast, ↓reduceIte, Nat.reduceEqDiff, reduceCtorEq, Nat.reduceAdd, Nat.reduceLT, Nat.reduceLeDiff, aB, aA, la, h0']
    exact ⟨List.prefix_refl _, by simp [eI, h0]⟩
  · have h0' : ¬ (l.length : Int) > 60 := by omega
    simp only [push_cast, ↓reduceIte, Nat.reduceEqDiff, reduceCtorEq, Nat.reduceAdd, Nat.reduceLT, Nat.reduceLeDiff, aB, aA, la, h0']
    refine aI (fun (i : Nat) f H' => H <+: H' ∧ i ≤ l.length ∧ f 0 = x ∧ f 3 = .int .i64 i ∧ (l.take i).any (fun u => jY u.f0) = false) (fun i => l.length - i) 0 ⟨List.prefix_refl _, Nat.zero_le _, rfl, rfl, rfl⟩ ?_
    rintro i f H' ⟨hp, h1, e0, e3, hs⟩
    by_cases hi : i < l.length
    · have hi' : (i : Int) < l.length := by omega
      have ax : aF 4 x (.int .i64 (i : Int)) = some (ptk x i 0) := aK hx (by rw [List.length_map]; exact hi) _
      have lx : (l.map upA)[i]? = some (upA l[i]) := by simp [hi]
      have hsn : (l.take (i + 1)).any (fun u => jY u.f0) = ((l.take i).any (fun u => jY u.f0) || jY l[i].f0) := by rw [List.take_succ_eq_append_getElem hi, List.any_append]; simp
      have hm := List.getElem_mem hi
      generalize l[i] = u at lx hsn hm
      have pv : part false 1 0 (upA u) = some (aS u.f0) := rfl
      simp only [push_cast, ↓reduceIte, Nat.reduceEqDiff, reduceCtorEq, Nat.reduceAdd, Nat.reduceLT, Nat.reduceLeDiff, aB, aA, e0, e3, la, hi', ax, cO, aO hx lx, hp, pv]
      (refine aC.look (SE _ u.f0 _ rfl) ?_; simp only [push_cast, ↓reduceIte, Nat.reduceEqDiff, reduceCtorEq, Nat.reduceAdd, Nat.reduceLT, Nat.reduceLeDiff, aB, aA, e0, e3])
      cases hc : jY u.f0 with
      | true =>
        simp only [push_cast, ↓reduceIte, Nat.reduceEqDiff, reduceCtorEq, Nat.reduceAdd, Nat.reduceLT, Nat.reduceLeDiff, aB, aA, e0, e3]
        have : eI l = true := by
          unfold eI
          rw [Bool.or_eq_true]
          exact .inr (List.any_eq_true.2 ⟨u, hm, hc⟩)
        exact ⟨hp, by rw [this]⟩
      | false =>
        simp only [push_cast, ↓reduceIte, Nat.reduceEqDiff, reduceCtorEq, Nat.reduceAdd, Nat.reduceLT, Nat.reduceLeDiff, aB, aA, e0, e3]
        refine ⟨i + 1, ⟨hp, hi, ?_, ?_⟩, by omega⟩
        · rw [aE (by omega) (by omega)]; simp
        · rw [hsn, hs, hc]; rfl
    · have hi' : ¬ (i : Int) < l.length := by omega
      simp only [push_cast, ↓reduceIte, Nat.reduceEqDiff, reduceCtorEq, Nat.reduceAdd, Nat.reduceLT, Nat.reduceLeDiff, aB, aA, e0, e3, la, hi']
      rw [List.take_of_length_le (by omega)] at hs
      exact ⟨hp, by simp only [eI, hs]; simp; omega⟩
theorem pR {l : List Upd} (h : eI l = false) : l.length ≤ 60 ∧ ∀ u ∈ l, u.f0.length ≤ 30 := by
  unfold eI at h
  rw [Bool.or_eq_false_iff] at h
  refine ⟨by simpa using h.1, fun u hu => ?_⟩
  have := List.any_eq_false.1 h.2 u hu
  unfold jY at this
  simp only [Bool.not_eq_true, Bool.or_eq_false_iff] at this
  simpa using this.1
end Go.Eng
end
section
set_option linter.unusedVariables false
set_option linter.unusedSimpArgs false
set_option maxRecDepth 10000
namespace Go.Eng
open Go Go.Proofs
def F27 : AFn := ⟨24, 0, [.t 0], (.seq (.ops [oo 0 (.mov (.v (.bool false)))]) (.seq (.ops [oo 4 (.build [(.int .i64 0), (.int .i64 0), (.str ⟨#[]⟩)] [(1, 1, (.v (.int .i64 1)))]), oo 5 (.bslz 3 1 (.agg [(.int .i64 0), (.int .i64 0), (.str ⟨#[]⟩)]) [(0, (.t 4))]), oo 6 (.build [(.int .i64 0), (.int .i64 0), (.str ⟨#[]⟩)] [(1, 1, (.v (.int .i64 3)))]), oo 7 (.bslz 3 1 (.agg [(.int .i64 0), (.int .i64 0), (.str ⟨#[]⟩)]) [(0, (.t 6))]), oo 8 (.build [(.int .i64 0), (.int .i64 0), (.str ⟨#[]⟩)] [(1, 1, (.v (.int .i64 5)))]), oo 9 (.bslz 3 1 (.agg [(.int .i64 0), (.int .i64 0), (.str ⟨#[]⟩)]) [(0, (.t 8))]), oo 10 (.build [(.int .i64 0), (.int .i64 0), (.str ⟨#[]⟩)] [(1, 1, (.v (.int .i64 7)))]), oo 11 (.bslz 3 1 (.agg [(.int .i64 0), (.int .i64 0), (.str ⟨#[]⟩)]) [(0, (.t 10))]), oo 12 (.bslz 1 4 .nils [(0, (.t 5)), (1, (.t 7)), (2, (.t 9)), (3, (.t 11))]), oo 13 (.build [(.int .i64 0), (.int .i64 0), (.str ⟨#[]⟩)] [(1, 1, (.v (.int .i64 4)))]), oo 14 (.bslz 3 1 (.agg [(.int .i64 0), (.int .i64 0), (.str ⟨#[]⟩)]) [(0, (.t 13))]), oo 15 (.call 66 [(.t 12), (.v (.int .i64 0)), (.t 14)]), oo 3 (.mov (.t 15)), oo 16 (.ext (.t 3) 0), oo 17 (.ext (.t 3) 1), oo 1 (.mov (.t 16)), oo 2 (.mov (.t 17))]) (.seq (.ops [oo 18 (.mov (.t 1)), oo 19 (.bin .eql (.t 18) (.v (.int .i64 2))), oo 20 (.mov (.t 19)), og 21 20 true (.mov (.t 2)), og 22 20 true (.bin .gtr (.t 21) (.v (.int .i64 0))), oo 23 (.pick (.t 20) (.t 22) (.v (.bool false))), oo 0 (.mov (.t 23))]) .ret)))⟩
theorem c27 : iY Tryz.prog (fun d => d == 5 || d == 7 || d == 9 || d == 11 || d == 12 || d == 14) 27 = some F27 := by kernel_rfl
theorem EH (H : AH) : aC Tryz.prog 27 [] H fun r H' => r = .bool true ∧ H' = H := by
  refine aG c27 (fun _ => rfl) (by simp [F27]) ?_
  unfold F27
  simp only [push_cast, ↓reduceIte, Nat.reduceEqDiff, reduceCtorEq, Nat.reduceAdd, Nat.reduceLT, Nat.reduceLeDiff]
  have hf : HK [[⟨0, 1, ⟨#[]⟩⟩], [⟨0, 3, ⟨#[]⟩⟩], [⟨0, 5, ⟨#[]⟩⟩], [⟨0, 7, ⟨#[]⟩⟩]] 0 [⟨0, 4, ⟨#[]⟩⟩] = (2, 3) := by decide
  have c := fun H => RN [[⟨0, 1, ⟨#[]⟩⟩], [⟨0, 3, ⟨#[]⟩⟩], [⟨0, 5, ⟨#[]⟩⟩], [⟨0, 7, ⟨#[]⟩⟩]] 0 [⟨0, 4, ⟨#[]⟩⟩] H (by decide) (by decide) (by decide)
  rw [hf] at c
  have c2 : ∀ H, aC Tryz.prog 66 [bO [[⟨0, 1, ⟨#[]⟩⟩], [⟨0, 3, ⟨#[]⟩⟩], [⟨0, 5, ⟨#[]⟩⟩], [⟨0, 7, ⟨#[]⟩⟩]], .int .i64 0, aS [⟨0, 4, ⟨#[]⟩⟩]] H fun x H' => x = .tup [.int .i64 2, .int .i64 3] ∧ H' = H := c
  have t1 : (2 : Int) = 2 := rfl
  have t2 : (3 : Int) > 0 := by decide
  (refine aC.look (c2 _) ?_; simp only [push_cast, ↓reduceIte, Nat.reduceEqDiff, reduceCtorEq, Nat.reduceAdd, Nat.reduceLT, Nat.reduceLeDiff, aB, aA, t1, t2])
  (repeat (first | exact List.prefix_refl _ | refine List.IsPrefix.trans ?_ (List.prefix_append _ _)))
end Go.Eng
end
section
set_option linter.unusedVariables false
set_option linter.unusedSimpArgs false
namespace Go.Eng
open Go Go.Proofs Go.RowKit
def K0 (W : World) : KW := ⟨fun _ => none, fun b => W.heap[b]?, fun _ => none, ioW W⟩
theorem SG (W : World) : Rel (K0 W) W [] :=
  ⟨fun t p h => (by cases h), fun t p sz es h => (by cases h), fun t t' p p' sz es sz' es' n h => (by cases h), fun b o h => h, ⟨fun t p f lp st pd h => (by cases h), fun t t' p p' f lp st pd f' lp' st' pd' n h => (by cases h)⟩, rfl⟩
theorem IK {W w' : World} {K' : KW} {H' : AH} (e : Ext (K0 W) [] K' H') (r : Rel K' w' H') : Below W.heap.size W w' := by
  have hio : ioW w' = ioW W := r.io.trans e.le.io
  have hb : ∀ k, k < W.heap.size → w'.heap[k]? = W.heap[k]? := fun k hk => by
    have h : (K0 W).fz k = some W.heap[k] := Array.getElem?_eq_getElem hk
    rw [r.fz k _ (e.le.fz k _ h)]
    exact h.symm
  unfold ioW at hio
  injection hio with h1 h2 h3
  refine ⟨h1, h2, h3, ?_, hb⟩
  by_cases h : W.heap.size ≤ w'.heap.size
  · exact h
  · have := hb w'.heap.size (by omega)
    rw [Array.getElem?_eq_none (Nat.le_refl _), Array.getElem?_eq_getElem (by omega)] at this
    cases this
theorem calls_law {P : Program} {g : FuncId} {args : List AV} (h : aC P g args [] fun r H' => r = .bool true ∧ H' = []) {W : World} {cargs : Array Value} (ha : RelL (K0 W) args cargs.toList) : Calls P g cargs W fun e w' => e = .returned (.bool true) ∧ Below W.heap.size W w' :=
  (h.2 (K0 W) W cargs (SG W) ha).mono fun e w' ⟨v, K', H', r, h1, h2, h3, h4, h5, h6⟩ => by
    subst h5
    cases h4
    exact ⟨h1, IK h2 h3⟩
section
variable {T : Type} {enc : TypeId × Value → T} {P : Program} {w : World} {base : Nat} {spare : Nat → Bool} {held : Bool}
def fW (enc : TypeId × Value → T) (P : Program) (w : World) (base : Nat) (spare : Nat → Bool) (held : Bool) (t : TypeId) {α : Type} (ec : α → AV) (G : α → Prop) : Prop :=
  ∀ fuel cs x, DataW.trod enc P w base spare held fuel t cs = some x → ∃ y, RelL (K0 w) (cells (ec y)) cs ∧ G y
theorem SI {t : TypeId} {k : IntKind} (ht : P.underlying t = some (.int k)) : fW enc P w base spare held t (fun n => .int k n) (fun n => (Lit.int k n).wf = true) := by
  intro fuel cs x h
  obtain ⟨n, rfl, hx, hw⟩ := DataW.trod_int ht h
  exact ⟨n, RelL.cons (.int k n) (RelL.nil _), hw⟩
theorem XF {t : TypeId} (ht : P.underlying t = some .string) : fW enc P w base spare held t (fun s => .str s) (fun s => s.size ≤ 9223372036854775807) := by
  intro fuel cs x h
  obtain ⟨s, rfl, hx, hw⟩ := DataW.trod_string ht h
  exact ⟨s, RelL.cons (.str s) (RelL.nil _), hw⟩
theorem NU {α : Type} {n : Nat} {p : Nat → α → Prop} (h : ∀ i, i < n → ∃ x, p i x) : ∃ l : List α, l.length = n ∧ ∀ (i : Nat) x, l[i]? = some x → p i x := by
  induction n with
  | zero => exact ⟨[], rfl, fun i x hx => by simp at hx⟩
  | succ n ih =>
    obtain ⟨l, hl, hp⟩ := ih (fun i hi => h i (by omega))
    obtain ⟨x, hx⟩ := h n (by omega)
    refine ⟨l ++ [x], by simp [hl], fun i y hy => ?_⟩
    rcases Nat.lt_or_ge i l.length with hi | hi
    · rw [List.getElem?_append_left hi] at hy; exact hp i y hy
    · have := (List.getElem?_eq_some_iff.1 hy).1
      rw [List.length_append, List.length_singleton] at this
      have : i = n := by omega
      subst this
      have : x = y := by simpa [hl] using hy
      exact this ▸ hx
theorem rT {w : World} {a : Addr} {v : Value} (h : w.cell? a = some v) : a.spot = none ∧ ∃ cs T fr, w.heap[a.block]? = some (.cells cs T fr) ∧ cs[a.off]? = some v := by
  unfold World.cell? at h
  split at h
  · rename_i c T fr hb
    split at h
    · cases h
    · rename_i hs
      refine ⟨by cases hsp : a.spot with | none => rfl | some _ => (rw [hsp] at hs; simp at hs), c, T, fr, hb, h⟩
  · cases h
theorem EI {t e : TypeId} {α : Type} {ec : α → AV} {G : α → Prop} {sz : Nat} (ht : P.underlying t = some (.slice e)) (hc : P.cellsOf e = sz) (h0 : 0 < sz) (hf : ∀ y, fits sz (ec y)) (ho : fW enc P w base spare held e ec G) :
    fW enc P w base spare held t (fun (l : List α) => .list sz (l.map ec) false) (fun (l : List α) => l.length ≤ 9223372036854775807 ∧ ∀ y ∈ l, G y) := by
  intro fuel cs x h
  rcases Go.Deep.open_slice ht h with ⟨rfl, _⟩ | ⟨a, len, cap, m, n, D, Pl, rfl, hb, hl, hm, hmm, rfl, hx⟩
  · exact ⟨[], RelL.cons (.list0 (fun e => by cases e)) (RelL.nil _), by simp, fun y hy => by simp at hy⟩
  · have hlm : len ≤ m := by rw [hmm]; split <;> omega
    have key : ∀ i, i < len → ∃ y, (∃ c, c.length = sz ∧ RelL (K0 w) (cells (ec y)) c ∧ ∀ j, j < sz → w.cell? ((a.add (i * sz)).add j) = c[j]?) ∧ G y := by
      intro i hi
      obtain ⟨cs', h1, h2⟩ := hx i (by omega)
      obtain ⟨y, hy, hg⟩ := ho _ _ _ h2
      rw [hc] at h1
      have h3 := World.cells?_some h1
      exact ⟨y, ⟨cs', h3.2.1, hy, h3.2.2⟩, hg⟩
    obtain ⟨l, hll, hp⟩ := NU key
    have hml : len ≤ 9223372036854775807 := by unfold maxLen at hm; omega
    refine ⟨l, RelL.cons ?_ (RelL.nil _), by omega, fun y hy => ?_⟩
    · by_cases hz : len = 0
      · rw [hz] at hll
        obtain rfl := List.eq_nil_of_length_eq_zero hll
        rw [hz]
        exact .list0 (fun e => by cases e)
      · obtain ⟨v0, hv0⟩ : ∃ v, w.cell? a = some v := by
          obtain ⟨y, ⟨c, c1, c2, c3⟩, _⟩ := key 0 (by omega)
          have := c3 0 h0
          rw [List.getElem?_eq_getElem (by omega), Nat.zero_mul] at this
          exact ⟨_, this⟩
        obtain ⟨hsp, cs0, T, fr, hb0, _⟩ := rT hv0
        obtain ⟨blk, off, spt⟩ := a
        have hsp' : spt = none := hsp
        subst hsp'
        have hb0' : w.heap[blk]? = some (.cells cs0 T fr) := hb0
        have hadd : ∀ i j, ((⟨blk, off, none⟩ : Addr).add i).add j = ⟨blk, off + (i + j), none⟩ := fun i j => by
          rw [Go.Deep.add_add]
          unfold Addr.add
          split
          · rename_i e; rw [e]; rfl
          · rfl
        have cell : ∀ i, i < len → ∀ j, j < sz → ∃ v, w.cell? ⟨blk, off + (i * sz + j), none⟩ = some v := fun i hi j hj => by
          obtain ⟨y, ⟨c, c1, c2, c3⟩, _⟩ := key i hi
          have := c3 j hj
          rw [List.getElem?_eq_getElem (by omega), hadd] at this
          exact ⟨_, this⟩
        have hget : ∀ k v, w.cell? ⟨blk, k, none⟩ = some v → k < cs0.size ∧ cs0.getD k Go.undef = v := fun k v hk => by
          obtain ⟨_, cs1, T1, fr1, q1, q2⟩ := rT hk
          have q1' : w.heap[blk]? = some (.cells cs1 T1 fr1) := q1
          rw [hb0'] at q1'
          cases q1'
          have q2' : cs0[k]? = some v := q2
          exact ⟨(Array.getElem?_eq_some_iff.1 q2').1, by simp [Array.getD_eq_getD_getElem?, q2']⟩
        refine .list (K := K0 w) (cs := cs0) (T := T) (fr := fr) hb0' (by rw [List.length_map]; exact hll) hl (fun e => by cases e) ?_ (fun x hx => ?_) (fun i k x y hxi hyk => ?_)
        · obtain ⟨v, hv⟩ := cell (len - 1) (by omega) (sz - 1) (by omega)
          have := (hget _ _ hv).1
          have e1 : (len - 1) * sz + sz = len * sz := by
            have : len = len - 1 + 1 := by omega
            rw (config := { occs := .pos [2] }) [this]
            rw [Nat.add_mul, Nat.one_mul]
          omega
        · obtain ⟨y, _, rfl⟩ := List.mem_map.1 hx
          exact hf y
        · rw [List.getElem?_map] at hxi
          cases hli : l[i]? with
          | none => rw [hli] at hxi; cases hxi
          | some z =>
            rw [hli] at hxi
            cases hxi
            have hil : i < len := by rw [← hll]; exact (List.getElem?_eq_some_iff.1 hli).1
            obtain ⟨⟨c, c1, c2, c3⟩, _⟩ := hp i z hli
            have hk : k < sz := by rw [← (hf z).1]; exact (List.getElem?_eq_some_iff.1 hyk).1
            have hck : c[k]? = some c[k] := List.getElem?_eq_getElem (by omega)
            have h4 := c3 k hk
            rw [hck] at h4
            have h5 : w.cell? ⟨blk, off + (i * sz + k), none⟩ = some c[k] := by rw [← hadd]; exact h4
            rw [(hget _ _ h5).2]
            exact c2.2 k y _ hyk hck
    · obtain ⟨i, hi⟩ := List.getElem?_of_mem hy
      exact (hp i y hi).2
theorem jQ {t : TypeId} {fs : Array Field} {fuel : Nat} {cs : List Value} {x : DataW T × List MemPlace} (ht : P.underlying t = some (.struct fs)) (h : DataW.trod enc P w base spare held fuel t cs = some x)
    (i : Nat) (f : Field) (hf : fs[i]? = some f) {α : Type} {ec : α → AV} {G : α → Prop} {sz : Nat} (hc : P.cellsOf f.type = sz) (ho : fW enc P w base spare held f.type ec G) :
    cs.length = P.cellsOf t ∧ ∃ y, RelL (K0 w) (cells (ec y)) ((cs.drop f.offset).take sz) ∧ G y := by
  obtain ⟨xs, n, _, _, hl, hlen, hx⟩ := DataW.trod_struct ht h
  have h1 := hx i f hf
  have hi : i < xs.length := by rw [hlen]; exact (Array.getElem?_eq_some_iff.1 hf).1
  rw [List.getElem?_eq_getElem hi, hc] at h1
  obtain ⟨y, h2, h3⟩ := ho _ _ _ h1
  exact ⟨hl, y, h2, h3⟩
theorem NV {K : KW} {xs ys : List AV} {cs : List Value} {n : Nat} (h1 : RelL K xs (cs.take n)) (h2 : RelL K ys (cs.drop n)) : RelL K (xs ++ ys) cs := by
  have := h1.append h2
  rwa [List.take_append_drop] at this
end
end Go.Eng
end
section
set_option linter.unusedVariables false
namespace Go.Eng
open Go Go.Proofs
def GV (v : Val) : Prop := (Lit.int .i64 v.f0).wf = true ∧ (Lit.int .i64 v.f1).wf = true ∧ v.f2.size ≤ 9223372036854775807
def GL {α : Type} (G : α → Prop) (l : List α) : Prop := l.length ≤ 9223372036854775807 ∧ ∀ v ∈ l, G v
def GT (t : Tm) : Prop := (Lit.int .i64 t.f0).wf = true ∧ (Lit.int .i64 t.f1).wf = true
def GU (u : Upd) : Prop := GL GV u.f0 ∧ GT u.f1 ∧ (Lit.int .i64 u.f2).wf = true
theorem EJ {K : KW} {xs ys zs : List AV} {cs : List Value} {a b c : Nat} (hl : cs.length = a + (b + c)) (h1 : RelL K xs ((cs.drop 0).take a)) (h2 : RelL K ys ((cs.drop a).take b)) (h3 : RelL K zs ((cs.drop (a + b)).take c)) : RelL K (xs ++ (ys ++ zs)) cs := by
  rw [List.drop_zero] at h1
  refine NV h1 (NV h2 ?_)
  rw [List.drop_drop]
  rwa [List.take_of_length_le (by rw [List.length_drop]; omega)] at h3
theorem SJ {K : KW} {xs ys : List AV} {cs : List Value} {a b : Nat} (hl : cs.length = a + b) (h1 : RelL K xs ((cs.drop 0).take a)) (h2 : RelL K ys ((cs.drop a).take b)) : RelL K (xs ++ ys) cs := by
  rw [List.drop_zero] at h1
  refine NV h1 ?_
  rwa [List.take_of_length_le (by rw [List.length_drop]; omega)] at h2
theorem XG {x : AV} (h : dH x = true) (hc : cells x = [x]) : fits 1 x := by
  refine ⟨by rw [hc]; rfl, fun y hy => ?_⟩
  rw [hc] at hy
  rw [List.mem_singleton.1 hy]; exact h
theorem XH (v : Val) : fits 3 (eC v) := ⟨rfl, fun y hy => by
  have : y ∈ [AV.int .i64 v.f0, .int .i64 v.f1, .str v.f2] := hy
  simp at this
  rcases this with rfl | rfl | rfl <;> rfl⟩
theorem XI (u : Upd) : fits 4 (upA u) := ⟨rfl, fun y hy => by
  have : y ∈ [aS u.f0, AV.int .i64 u.f1.f0, .int .i64 u.f1.f1, .int .i64 u.f2] := hy
  simp at this
  rcases this with rfl | rfl | rfl | rfl <;> rfl⟩
section
variable {T : Type} {enc : TypeId × Value → T} {w : World} {base : Nat} {spare : Nat → Bool} {held : Bool}
theorem XJ : fW enc Tryz.prog w base spare held 85 eC GV := by
  intro fuel cs x h
  obtain ⟨hl, y0, k0, g0⟩ := jQ Tryz.underlying85 h 0 _ rfl (sz := 1) (by kernel_rfl) (SI Tryz.underlying3)
  obtain ⟨_, y1, k1, g1⟩ := jQ Tryz.underlying85 h 1 _ rfl (sz := 1) (by kernel_rfl) (SI Tryz.underlying3)
  obtain ⟨_, y2, k2, g2⟩ := jQ Tryz.underlying85 h 2 _ rfl (sz := 1) (by kernel_rfl) (XF Tryz.underlying9)
  have hl : cs.length = 3 := hl.trans (by kernel_rfl)
  exact ⟨⟨y0, y1, y2⟩, EJ (a := 1) (b := 1) (c := 1) hl k0 k1 k2, g0, g1, g2⟩
theorem XK : fW enc Tryz.prog w base spare held 45 aS (GL GV) := EI Tryz.underlying45 (by kernel_rfl) (by decide) XH XJ
theorem VS : fW enc Tryz.prog w base spare held 59 aQ GT := by
  intro fuel cs x h
  obtain ⟨hl, y0, k0, g0⟩ := jQ Tryz.underlying59 h 0 _ rfl (sz := 1) (by kernel_rfl) (SI Tryz.underlying3)
  obtain ⟨_, y1, k1, g1⟩ := jQ Tryz.underlying59 h 1 _ rfl (sz := 1) (by kernel_rfl) (SI Tryz.underlying3)
  have hl : cs.length = 2 := hl.trans (by kernel_rfl)
  exact ⟨⟨y0, y1⟩, SJ (a := 1) (b := 1) hl k0 k1, g0, g1⟩
theorem upE : fW enc Tryz.prog w base spare held 61 upA GU := by
  intro fuel cs x h
  obtain ⟨hl, y0, k0, g0⟩ := jQ Tryz.underlying61 h 0 _ rfl (sz := 1) (by kernel_rfl) XK
  obtain ⟨_, y1, k1, g1⟩ := jQ Tryz.underlying61 h 1 _ rfl (sz := 2) (by kernel_rfl) VS
  obtain ⟨_, y2, k2, g2⟩ := jQ Tryz.underlying61 h 2 _ rfl (sz := 1) (by kernel_rfl) (SI Tryz.underlying3)
  have hl : cs.length = 4 := hl.trans (by kernel_rfl)
  exact ⟨⟨y0, y1, y2⟩, EJ (a := 1) (b := 2) (c := 1) hl k0 k1 k2, g0, g1, g2⟩
theorem XL : fW enc Tryz.prog w base spare held 22 aZ (GL GU) := EI Tryz.underlying22 (by kernel_rfl) (by decide) XI upE
end
end Go.Eng
end
section
set_option linter.unusedVariables false
set_option linter.unusedSimpArgs false
namespace Go.Eng
open Go Go.Proofs Go.RowKit
def lupsA (L : List (List Upd)) : AV := .list 1 (L.map aZ) false
section
variable {T : Type} {enc : TypeId × Value → T} {w : World} {base : Nat} {spare : Nat → Bool} {held : Bool}
theorem lupsE : fW enc Tryz.prog w base spare held 49 lupsA (GL (GL GU)) := EI Tryz.underlying49 (by kernel_rfl) (by decide) (fun _ => XG rfl rfl) XL
end
end Go.Eng
end
section
set_option linter.unusedVariables false
set_option linter.unusedSimpArgs false
set_option maxRecDepth 10000
namespace Go.Eng
open Go Go.Proofs
def F30 : AFn := ⟨4, 1, [.t 2], (.seq (.ops [oo 2 (.mov (.v (.int .i64 0)))]) (.seq (.ops [oo 3 (.mov (.t 0)), oo 2 (.mov (.t 3))]) .ret))⟩
theorem c30 : aD Tryz.prog 30 = some F30 := by kernel_rfl
theorem JY (n : Int) (H : AH) : aC Tryz.prog 30 [.int .i64 n] H fun r H' => r = .int .i64 n ∧ H' = H := by
  refine aG c30 (fun _ => rfl) (by simp [F30]) ?_
  unfold F30
  simp only [push_cast, ↓reduceIte, Nat.reduceEqDiff, reduceCtorEq, Nat.reduceAdd, Nat.reduceLT, Nat.reduceLeDiff]
  (repeat (first | exact List.prefix_refl _ | refine List.IsPrefix.trans ?_ (List.prefix_append _ _)))
theorem rU {H0 H : AH} {sz sz2 bytes : Nat} {v w x : AV} {l l2 : List AV} (h : Own H0 H sz v l) (h2 : Own H0 H sz2 w l2) (hne : ∀ t, idx w = some t → idx v ≠ some t) (hp : H0 <+: H) (hb : (l.length + 1) * bytes ≤ 140737488355328) {K : AV → AH → Prop}
    (hk : ∀ v' H', Own H0 H' sz v' (l ++ [x]) → Own H0 H' sz2 w l2 → (∀ t, idx w = some t → idx v' ≠ some t) → H0 <+: H' → K v' H') : xAt (mM sz bytes v (.ref sz H.length 0 1 1 true) (H ++ [.live sz [x]])) K := by
  have h' := h.mono (J := [.live sz [x]])
  have h2' := h2.mono (J := [.live sz [x]])
  have ha := h'.app_eq (bytes := bytes) (x := .ref sz H.length 0 1 1 true) (bT rfl) (by simp) (by simpa using hb)
  rw [ha]
  refine hk _ _ (Own.fresh (aN hp)) (h2'.kept hne) (fun t ht e => ?_) (h'.killed (aN hp))
  cases e
  have := (h2.idx_lt ht).2
  rw [List.length_append, List.length_singleton] at this
  omega
def okL (key : Int) (L : List (List Upd)) : List (List Upd) := L.filter fun l => decide (bW key l [] = 0)
def IL (key : Int) (L : List (List Upd)) : AV := .list 1 ((okL key L).map fun l => gF (iT key l [])) false
def EK (key : Int) (L : List (List Upd)) : AV := .list 1 ((okL key L).map fun l => aZ (lW key l [])) false
def lY (key : Int) (L : List (List Upd)) : AV := if L.any eI = true then .tup [.list 1 [] false, .list 1 [] false, .bool false] else .tup [IL key L, EK key L, .bool true]
theorem IM (key : Int) (L : List (List Upd)) {i : Nat} (hi : i < L.length) : okL key (L.take (i + 1)) = okL key (L.take i) ++ (if bW key L[i] [] = 0 then [L[i]] else []) := by
  rw [← List.take_append_getElem hi]
  unfold okL
  rw [List.filter_append, List.filter_cons]
  by_cases h : bW key L[i] [] = 0 <;> simp [h]
theorem EL (key : Int) (L : List (List Upd)) : (okL key L).length ≤ L.length := List.length_filter_le _ _
theorem SK {n : Int} (h : (Lit.int .i64 n).wf = true) : okI n := by
  simp only [Lit.wf, Bool.and_eq_true, decide_eq_true_eq] at h
  exact h
theorem Own.weak_keep {H0 H : AH} {sz sz2 : Nat} {v w : AV} {l l2 : List AV} (h : Own H0 H sz v l) (h2 : Own H0 H sz2 w l2) (hne : ∀ t, idx w = some t → idx v ≠ some t) (hp : H0 <+: H) : ∃ H', bZ H v H' (.list sz l false) ∧ H0 <+: H' ∧ Own H0 H' sz2 w l2 := by
  rcases h with ⟨rfl, rfl⟩ | ⟨t, ex, ht, rfl, ho⟩
  · exact ⟨H, bZ.nils H sz, hp, h2⟩
  · refine ⟨List.set H t .dead, ?_, bM hp ht _, h2.set_other (fun e => hne t e rfl)⟩
    have := (Frz.ref (off := 0) (n := l.length) (c := l.length) (ex := ex) ho (by omega)).weak
    simpa using this
theorem IP {L : List (List Upd)} {i : Nat} (hi : i < L.length) (h : eI L[i] = true) : L.any eI = true := List.any_eq_true.2 ⟨_, List.getElem_mem hi, h⟩
def F28 : AFn := ⟨59, 2, [.t 4, .t 5, .t 6], (.seq (.ops [oo 4 (.mov (.v .nils)), oo 5 (.mov (.v .nils)), oo 6 (.mov (.v (.bool false)))]) (.seq (.ops [oo 7 (.mov (.v .nils))]) (.seq (.ops [oo 8 (.mov (.v .nils))]) (.seq (.seq (.ops [oo 9 (.mov (.v (.int .i64 0)))]) (.block 0 (.loop (.seq (.seq (.ops [oo 14 (.mov (.t 9)), oo 15 (.mov (.t 1)), oo 16 (.len (.t 15)), oo 17 (.bin .lss (.t 14) (.t 16))]) (.cond (.t 17) .skip (.exit 0))) (.seq (.block 1 (.seq (.seq (.ops [oo 20 (.mov (.t 1)), oo 21 (.mov (.t 9)), oo 22 (.iaddr 1 (.t 20) (.t 21)), oo 23 (.load false 1 (.t 22)), oo 24 (.call 7 [(.t 23)])]) (.cond (.t 24) (.seq (.ops [oo 4 (.mov (.v .nils)), oo 5 (.mov (.v .nils)), oo 6 (.mov (.v (.bool false)))]) .ret) .skip)) (.seq (.ops [oo 26 (.mov (.t 0)), oo 27 (.mov (.t 1)), oo 28 (.mov (.t 9)), oo 29 (.iaddr 1 (.t 27) (.t 28)), oo 30 (.load false 1 (.t 29)), oo 31 (.call 9 [(.t 26), (.t 30), (.v .nils)]), oo 25 (.mov (.t 31)), oo 32 (.ext (.t 25) 0), oo 33 (.ext (.t 25) 1), oo 10 (.mov (.t 32)), oo 11 (.mov (.t 33))]) (.seq (.ops [oo 35 (.mov (.t 0)), oo 36 (.mov (.t 1)), oo 37 (.mov (.t 9)), oo 38 (.iaddr 1 (.t 36) (.t 37)), oo 39 (.load false 1 (.t 38)), oo 40 (.call 10 [(.t 35), (.t 39), (.v .nils)]), oo 34 (.mov (.t 40)), oo 41 (.ext (.t 34) 0), oo 42 (.ext (.t 34) 1), oo 12 (.mov (.t 41)), oo 13 (.mov (.t 42))]) (.seq (.seq (.ops [oo 43 (.mov (.t 11)), oo 44 (.call 30 [(.t 43)]), oo 45 (.mov (.t 13)), oo 46 (.bin .neq (.t 44) (.t 45))]) (.cond (.t 46) (.seq (.ops [oo 4 (.mov (.v .nils)), oo 5 (.mov (.v .nils)), oo 6 (.mov (.v (.bool false)))]) .ret) .skip)) (.seq (.ops [oo 47 (.mov (.t 13)), oo 48 (.bin .eql (.t 47) (.v (.int .i64 0)))]) (.cond (.t 48) (.ops [oo 49 (.mov (.t 7)), oo 50 (.mov (.t 10)), oo 51 (.bsl 1 1 .nilp [(0, (.t 50))]), oo 52 (.app 1 8 (.t 49) (.t 51)), oo 53 (.mov (.t 8)), oo 54 (.mov (.t 12)), oo 55 (.bsl 1 1 .nils [(0, (.t 54))]), oo 56 (.app 1 24 (.t 53) (.t 55)), oo 7 (.mov (.t 52)), oo 8 (.mov (.t 56))]) .skip))))))) (.ops [oo 18 (.mov (.t 9)), oo 19 (.bin .add (.t 18) (.v (.int .i64 1))), oo 9 (.mov (.t 19))])))))) (.seq (.ops [oo 57 (.mov (.t 7)), oo 58 (.mov (.t 8)), oo 4 (.mov (.t 57)), oo 5 (.mov (.t 58)), oo 6 (.mov (.v (.bool true)))]) .ret)))))⟩
theorem c28 : aD Tryz.prog 28 = some F28 := by kernel_rfl
theorem SL (key : Int) (L : List (List Upd)) (hL : L.length < 1099511627776) (hw : ∀ l ∈ L, ∀ u ∈ l, okI u.f2) (H : AH) : aC Tryz.prog 28 [.int .i64 key, lupsA L] H fun r H' => r = lY key L ∧ H' = H := by
  have hcl : ∀ n, cl n (lY key L) = true := fun n => by
    have h1 : cl n (IL key L) = true := mG (enc := fun l => gF (iT key l [])) (fun l => CU n (iT key l [])) (okL key L)
    have h2 : cl n (EK key L) = true := mG (enc := fun l => aZ (lW key l [])) (fun l => mG (enc := upA) (oR n) (lW key l [])) (okL key L)
    unfold lY
    split <;> simp [cl, cls, h1, h2]
  refine aW c28 (v := lY key L) hcl (by simp [F28]) ?_
  unfold F28
  have la : cZ (lupsA L) = some L.length := by simp [lupsA, cZ]
  have hfail : L.any eI = true → ∀ H', H <+: H' → ∃ H2, bZ H' (.tup [.nils, .nils, .bool false]) H2 (lY key L) ∧ H <+: H2 := fun h H' hp => by
    refine ⟨H', ?_, hp⟩
    rw [lY, if_pos h]
    exact (bZ.tup (i := 0) (vs := [.nils, .nils, .bool false]) (bZ.nils _ 1) rfl).trans (bZ.tup (i := 1) (vs := [.list 1 [] false, .nils, .bool false]) (bZ.nils _ 1) rfl)
  simp only [push_cast, ↓reduceIte, Nat.reduceEqDiff, reduceCtorEq, Nat.reduceAdd, Nat.reduceLT, Nat.reduceLeDiff]
  refine aI (fun (i : Nat) f H' => H <+: H' ∧ i ≤ L.length ∧ f 0 = .int .i64 key ∧ f 1 = lupsA L ∧ f 9 = .int .i64 i ∧ (∀ k (h : k < L.length), k < i → eI L[k] = false) ∧ ∃ v w, f 7 = v ∧ f 8 = w ∧ Own H H' 1 v ((okL key (L.take i)).map fun l => gF (iT key l [])) ∧ Own H H' 1 w ((okL key (L.take i)).map fun l => aZ (lW key l [])) ∧ ∀ t, idx w = some t → idx v ≠ some t) (fun i => L.length - i) 0 ⟨List.prefix_refl _, Nat.zero_le _, rfl, rfl, rfl, fun k _ h => absurd h (Nat.not_lt_zero _), .nils, .nils, rfl, rfl, .inl ⟨rfl, rfl⟩, .inl ⟨rfl, rfl⟩, fun t h => by cases h⟩ ?_
  rintro i f H' ⟨hp, h1, e0, e1, e9, hno, v, w, e7, e8, hv, hw2, hne⟩
  by_cases hi : i < L.length
  · have hi' : (i : Int) < L.length := by omega
    have w1 : IntKind.i64.wrap ((i : Int) + 1) = ((i + 1 : Nat) : Int) := by rw [aE (by omega) (by omega)]; omega
    have ax : aF 1 (lupsA L) (.int .i64 (i : Int)) = some (.lptr 1 (L.map aZ) i 0) := cM (by rw [List.length_map]; exact hi) _
    have lx : (L.map aZ)[i]? = some (aZ L[i]) := by simp [hi]
    have p0 : ∀ l, part false 1 0 (aZ l) = some (aZ l) := fun _ => rfl
    have hok := IM key L hi
    have hol : (okL key (L.take i)).length ≤ i := by
      have := EL key (L.take i)
      rw [List.length_take] at this
      omega
    have hwl := hw _ (List.getElem_mem hi)
    have hany := fun h => IP hi h
    have hnx : eI L[i] = false → ∀ k (h : k < L.length), k < i + 1 → eI L[k] = false := fun hm k hk hki => by
      by_cases hki2 : k < i
      · exact hno k hk hki2
      · obtain rfl : k = i := by omega
        exact hm
    generalize L[i] = l at *
    simp only [push_cast, ↓reduceIte, Nat.reduceEqDiff, reduceCtorEq, Nat.reduceAdd, Nat.reduceLT, Nat.reduceLeDiff, aB, aA, e0, e1, e7, e8, e9, la, hi', ax, lx, p0]
    (refine aC.look (SF (aZ l) l _ rfl) ?_; simp only [push_cast, ↓reduceIte, Nat.reduceEqDiff, reduceCtorEq, Nat.reduceAdd, Nat.reduceLT, Nat.reduceLeDiff, aB, aA, e0, e1, e7, e8, e9])
    cases hm : eI l with
    | true =>
      simp only [push_cast, ↓reduceIte, Nat.reduceEqDiff, reduceCtorEq, Nat.reduceAdd, Nat.reduceLT, Nat.reduceLeDiff]
      exact hfail (hany hm) _ hp
    | false =>
      obtain ⟨m1, m2⟩ := pR hm
      have hs : cI l := fun u hu => by have := m2 u hu; omega
      have hr := SD key (aZ l) .nils l [] H' rfl (by omega) hs hwl rfl (by decide) (fun h => absurd rfl h)
      have hA : MS key l [] = .tup [if bW key l [] = 0 then gF (iT key l []) else .nilp, .int .i64 (bW key l [])] := by
        unfold MS
        split
        · rename_i h; rw [h]
        · rfl
      have cb : cells (if bW key l [] = 0 then gF (iT key l []) else .nilp) = [if bW key l [] = 0 then gF (iT key l []) else .nilp] := by split <;> rfl
      have cc : cells (aZ (lW key l [])) = [aZ (lW key l [])] := rfl
      have hAR : mK key l [] = .tup [aZ (lW key l []), .int .i64 (bW key l [])] := rfl
      simp only [push_cast, ↓reduceIte, Nat.reduceEqDiff, reduceCtorEq, Nat.reduceAdd, Nat.reduceLT, Nat.reduceLeDiff, aB, aA, e0, e1, e7, e8, e9, ax, lx, p0]
      (refine aC.look (VD key (aZ l) .nils l [] _ rfl (by omega) hs rfl (by decide) (fun h => absurd rfl h)) ?_; simp only [push_cast, ↓reduceIte, Nat.reduceEqDiff, reduceCtorEq, Nat.reduceAdd, Nat.reduceLT, Nat.reduceLeDiff, aB, aA, hA, e0, e1, e7, e8, e9, ax, lx, p0])
      (refine aC.look (hr) ?_; simp only [push_cast, ↓reduceIte, Nat.reduceEqDiff, reduceCtorEq, Nat.reduceAdd, Nat.reduceLT, Nat.reduceLeDiff, aB, aA, hAR, e0, e1, e7, e8, e9])
      (refine aC.look (JY _ _) ?_; simp only [push_cast, ↓reduceIte, Nat.reduceEqDiff, reduceCtorEq, Nat.reduceAdd, Nat.reduceLT, Nat.reduceLeDiff, aB, aA, e0, e1, e7, e8, e9])
      by_cases hc : bW key l [] = 0
      · rw [if_pos hc] at hok cb
        simp only [if_pos hc]
        have sb : dH (gF (iT key l [])) = true := rfl
        have su : dH (aZ (lW key l [])) = true := rfl
        simp only [push_cast, ↓reduceIte, Nat.reduceEqDiff, reduceCtorEq, Nat.reduceAdd, Nat.reduceLT, Nat.reduceLeDiff, aB, aA, hc, e0, e1, e7, e8, e9, cb, cc, sb, su]
        refine rU hv hw2 hne hp (by rw [List.length_map]; omega) fun v' H1 hv' hw' hne' hp' => ?_
        simp only [push_cast, ↓reduceIte, Nat.reduceEqDiff, reduceCtorEq, Nat.reduceAdd, Nat.reduceLT, Nat.reduceLeDiff, aB, aA, hc, e0, e1, e7, e8, e9, cb, cc, sb, su]
        refine rU hw' hv' (fun t ht e => hne' t e ht) hp' (by rw [List.length_map]; omega) fun w' H2 hw'' hv'' hne'' hp'' => ?_
        simp only [push_cast, ↓reduceIte, Nat.reduceEqDiff, reduceCtorEq, Nat.reduceAdd, Nat.reduceLT, Nat.reduceLeDiff, e0, e1, e9]
        refine ⟨i + 1, ⟨hp'', hi, by rw [w1], hnx hm, ?_⟩, by omega⟩
        rw [hok, List.map_append, List.map_append]
        exact ⟨_, _, rfl, rfl, hv'', hw'', fun t ht e => hne'' t e ht⟩
      · rw [if_neg hc, List.append_nil] at hok
        simp only [push_cast, ↓reduceIte, Nat.reduceEqDiff, reduceCtorEq, Nat.reduceAdd, Nat.reduceLT, Nat.reduceLeDiff, aB, aA, hc, e0, e1, e7, e8, e9]
        refine ⟨i + 1, ⟨hp, hi, by rw [w1], hnx hm, ?_⟩, by omega⟩
        rw [hok]
        exact ⟨_, _, rfl, rfl, hv, hw2, hne⟩
  · have hi' : ¬ (i : Int) < L.length := by omega
    have hany : ¬ L.any eI = true := fun h => by
      obtain ⟨l, hl, hm⟩ := List.any_eq_true.1 h
      obtain ⟨k, hk, rfl⟩ := List.mem_iff_getElem.1 hl
      rw [hno k hk (by omega)] at hm
      cases hm
    rw [List.take_of_length_le (by omega)] at hv hw2
    simp only [push_cast, ↓reduceIte, Nat.reduceEqDiff, reduceCtorEq, Nat.reduceAdd, Nat.reduceLT, Nat.reduceLeDiff, aB, aA, e0, e1, e7, e8, e9, la, hi']
    obtain ⟨H2, q1, q2, q3⟩ := hv.weak_keep hw2 hne hp
    obtain ⟨H3, q4, q5⟩ := q3.weak q2
    refine ⟨H3, ?_, q5⟩
    rw [lY, if_neg hany]
    exact (bZ.tup (i := 0) (vs := [v, w, .bool true]) q1 rfl).trans (bZ.tup (i := 1) (vs := [.list 1 _ false, w, .bool true]) q4 rfl)
end Go.Eng
end
section
set_option linter.unusedVariables false
set_option linter.unusedSimpArgs false
set_option maxRecDepth 10000
namespace Go.Eng
open Go Go.Proofs
structure BOk (ps : List Pl) : Prop where
  n : ps.length ≤ 8
  ok : ∀ p ∈ ps, OH p.b ∧ Vd 549755813888 p.b ∧ p.b.times.length < 1099511627776
theorem BOk.psok {m : Nat} {gf : Bt → Gr} {ps : List Pl} (h : BOk ps) (I : yE m gf ps) : HN ps :=
  ⟨by have := h.n; omega, fun p hp => (h.ok p hp).1.keys, I.at_, fun p hp => (h.ok p hp).1.kl⟩
theorem BOk.gsok {m : Nat} {gf : Bt → Gr} {ps : List Pl} (h : BOk ps) (I : yE m gf ps) : WB ps gf :=
  ⟨I.gs, fun p hp => (h.ok p hp).2.1, fun p hp => (h.ok p hp).2.2⟩
theorem BOk.next {ps : List Pl} (h : BOk ps) : BOk (jW ps) := by
  unfold jW
  split
  · exact h
  · refine ⟨by rw [List.length_map]; exact h.n, fun p' hp' => ?_⟩
    obtain ⟨p, hp, rfl⟩ := List.mem_map.1 hp'
    have := h.ok p hp
    split <;> exact this
theorem EM {key : Int} {L : List (List Upd)} (hl : L.length ≤ 8) (hm : ∀ l ∈ L, eI l = false) : BOk (ET key L) := by
  refine ⟨by unfold ET; rw [List.length_map]; exact hl, fun p hp => ?_⟩
  obtain ⟨l, h, rfl⟩ := List.mem_map.1 hp
  obtain ⟨m1, m2⟩ := pR (hm l h)
  have ht := nA key l []
  exact ⟨NB key l [] (by omega) (fun u hu => by have := m2 u hu; omega) (by decide), DC key l [] (fun u hu => by have := m2 u hu; omega), by dsimp only; omega⟩
theorem lZ {key : Int} : ∀ (r a : List Bt), (∀ b ∈ r, b.key = key) → (∀ b ∈ a, b.key = key) → fD a (r.map some) = some (a ++ r)
  | [], a, _, _ => by cases a <;> simp [fD]
  | b :: r, [], h, _ => by
    show fD [b] (r.map some) = _
    rw [lZ r [b] (fun x hx => h x (List.mem_cons_of_mem _ hx)) (fun x hx => by rw [List.mem_singleton.1 hx]; exact h b List.mem_cons_self)]
    simp
  | b :: r, c :: a, h, h2 => by
    show (if b.key = c.key then fD (c :: a ++ [b]) (r.map some) else none) = _
    rw [if_pos (by rw [h b List.mem_cons_self, h2 c List.mem_cons_self]), lZ r (c :: a ++ [b]) (fun x hx => h x (List.mem_cons_of_mem _ hx)) (fun x hx => ?_)]
    · simp
    · rcases List.mem_append.1 hx with hx | hx
      · exact h2 x hx
      · rw [List.mem_singleton.1 hx]; exact h b List.mem_cons_self
theorem EN (key : Int) (L : List (List Upd)) (hl : L.length ≤ 8) (hm : ∀ l ∈ L, eI l = false) (H : AH) : aC Tryz.prog 29 [.list 1 (L.map fun l => gF (iT key l [])) false] H fun r H' => ∃ v ts, r = .tup [.ptr H.length 0 0, .int .i64 0] ∧ Cur H H' H.length v ts (ET key L) := by
  have hb := EM (key := key) hl hm
  have hs : fD [] ((L.map fun l => iT key l []).map some) = some (L.map fun l => iT key l []) := by
    rw [lZ (key := key) _ [] (fun b hb => ?_) (fun b hb => absurd hb List.not_mem_nil), List.nil_append]
    obtain ⟨l, _, rfl⟩ := List.mem_map.1 hb
    exact (kE key l []).1
  refine (HM _ ((L.map fun l => iT key l []).map some) H ?_ (by rw [List.length_map, List.length_map]; omega) (fun b h => ?_)).mono fun r H' ⟨h1, h2, h3⟩ => ?_
  · show some _ = some _
    rw [List.map_map, List.map_map]
    rfl
  · obtain ⟨b', hb', e⟩ := List.mem_map.1 h
    cases e
    obtain ⟨l, h4, rfl⟩ := List.mem_map.1 hb'
    exact (hb.ok ⟨iT key l [], 0⟩ (List.mem_map.2 ⟨l, h4, rfl⟩)).1
  · obtain ⟨v, ts, e, C⟩ := h3 _ hs
    refine ⟨v, ts, e, ?_⟩
    rw [List.map_map] at C
    exact C
def NW : AC := (.block 4 (.loop (.seq (.seq (.ops [oo 78 (.mov (.t 17)), oo 79 (.mov (.t 16)), oo 80 (.len (.t 79)), oo 81 (.bin .lss (.t 78) (.t 80))]) (.cond (.t 81) .skip (.exit 4))) (.seq (.block 5 (.seq (.ops [oo 84 (.mov (.t 16)), oo 85 (.mov (.t 17)), oo 86 (.iaddr 4 (.t 84) (.t 85)), oo 87 (.faddr 0 (.t 86)), oo 88 (.load false 1 (.t 87)), oo 89 (.len (.t 88)), oo 90 (.mov (.t 0)), oo 91 (.bin .lss (.t 89) (.t 90)), oo 92 (.mov (.t 91)), og 93 92 false (.mov (.t 16)), og 94 92 false (.mov (.t 17)), og 95 92 false (.iaddr 4 (.t 93) (.t 94)), og 96 92 false (.faddr 0 (.t 95)), og 97 92 false (.load false 1 (.t 96)), og 98 92 false (.mov (.t 0)), og 99 92 false (.slice 3 (.t 97) none (some (.t 98)) none), og 100 92 false (.mov (.t 15)), og 101 92 false (.call 35 [(.t 99), (.t 100)]), og 102 92 false (.un .not (.t 101)), oo 103 (.pick (.t 92) (.v (.bool true)) (.t 102))]) (.cond (.t 103) (.seq (.ops [oo 4 (.mov (.v (.bool false)))]) .ret) .skip))) (.ops [oo 82 (.mov (.t 17)), oo 83 (.bin .add (.t 82) (.v (.int .i64 1))), oo 17 (.mov (.t 83))])))))
def NX : AC := (.block 2 (.loop (.seq (.seq (.ops [oo 57 (.mov (.t 8)), oo 58 (.call 31 [(.t 57)])]) (.cond (.t 58) .skip (.exit 2))) (.seq (.block 3 (.seq (.ops [oo 61 (.mov (.t 8)), oo 62 (.call 32 [(.t 61)]), oo 15 (.mov (.t 62))]) (.seq (.seq (.ops [oo 63 (.mov (.t 14)), oo 64 (.bin .gtr (.t 63) (.v (.int .i64 0))), oo 65 (.mov (.t 64)), og 66 65 true (.mov (.t 13)), og 67 65 true (.mov (.t 15)), og 68 65 true (.call 33 [(.t 66), (.t 67)]), og 69 65 true (.bin .geq (.t 68) (.v (.int .i64 0))), oo 70 (.pick (.t 65) (.t 69) (.v (.bool false))), oo 71 (.mov (.t 70)), og 72 71 false (.mov (.t 14)), og 73 71 false (.mov (.t 11)), og 74 71 false (.bin .gtr (.t 72) (.t 73)), oo 75 (.pick (.t 71) (.v (.bool true)) (.t 74))]) (.cond (.t 75) (.seq (.ops [oo 4 (.mov (.v (.bool false)))]) .ret) .skip)) (.seq (.ops [oo 76 (.mov (.t 8)), oo 77 (.call 34 [(.t 76)]), oo 16 (.mov (.t 77))]) (.seq (.seq (.ops [oo 17 (.mov (.v (.int .i64 0)))]) (NW)) (.seq (.ops [oo 104 (.mov (.t 10)), oo 105 (.mov (.t 16)), oo 106 (.len (.t 105)), oo 107 (.bin .add (.t 104) (.t 106)), oo 10 (.mov (.t 107))]) (.seq (.ops [oo 108 (.mov (.t 15)), oo 13 (.mov (.t 108))]) (.ops [oo 109 (.mov (.t 8)), oo 110 (.call 36 [(.t 109)])])))))))) (.ops [oo 59 (.mov (.t 14)), oo 60 (.bin .add (.t 59) (.v (.int .i64 1))), oo 14 (.mov (.t 60))])))))
def NY : AC := (.block 0 (.loop (.seq (.seq (.ops [oo 44 (.mov (.t 12)), oo 45 (.mov (.t 6)), oo 46 (.len (.t 45)), oo 47 (.bin .lss (.t 44) (.t 46))]) (.cond (.t 47) .skip (.exit 0))) (.seq (.block 1 (.ops [oo 50 (.mov (.t 11)), oo 51 (.mov (.t 6)), oo 52 (.mov (.t 12)), oo 53 (.iaddr 1 (.t 51) (.t 52)), oo 54 (.load false 1 (.t 53)), oo 55 (.len (.t 54)), oo 56 (.bin .add (.t 50) (.t 55)), oo 11 (.mov (.t 56))])) (.ops [oo 48 (.mov (.t 12)), oo 49 (.bin .add (.t 48) (.v (.int .i64 1))), oo 12 (.mov (.t 49))])))))
def F4 : AFn := ⟨117, 2, [.t 4], (.seq (.ops [oo 4 (.mov (.v (.bool false)))]) (.seq (.seq (.ops [oo 18 (.mov (.t 1)), oo 19 (.len (.t 18)), oo 20 (.bin .gtr (.t 19) (.v (.int .i64 8)))]) (.cond (.t 20) (.seq (.ops [oo 21 (.call 27 []), oo 4 (.mov (.t 21))]) .ret) .skip)) (.seq (.ops [oo 23 (.mov (.t 0)), oo 24 (.mov (.t 1)), oo 25 (.call 28 [(.t 23), (.t 24)]), oo 22 (.mov (.t 25)), oo 26 (.ext (.t 22) 0), oo 27 (.ext (.t 22) 1), oo 28 (.ext (.t 22) 2), oo 5 (.mov (.t 26)), oo 6 (.mov (.t 27)), oo 7 (.mov (.t 28))]) (.seq (.seq (.ops [oo 29 (.mov (.t 7)), oo 30 (.un .not (.t 29))]) (.cond (.t 30) (.seq (.ops [oo 31 (.call 27 []), oo 4 (.mov (.t 31))]) .ret) .skip)) (.seq (.ops [oo 33 (.mov (.t 5)), oo 34 (.call 29 [(.t 33)]), oo 32 (.mov (.t 34)), oo 35 (.ext (.t 32) 0), oo 36 (.ext (.t 32) 1), oo 8 (.mov (.t 35)), oo 9 (.mov (.t 36))]) (.seq (.seq (.ops [oo 37 (.mov (.t 9)), oo 38 (.call 30 [(.t 37)]), oo 39 (.bin .neq (.t 38) (.v (.int .i64 0))), oo 40 (.mov (.t 39)), og 41 40 false (.mov (.t 8)), og 42 40 false (.eqn 0 false (.t 41)), oo 43 (.pick (.t 40) (.v (.bool true)) (.t 42))]) (.cond (.t 43) (.seq (.ops [oo 4 (.mov (.v (.bool false)))]) .ret) .skip)) (.seq (.ops [oo 10 (.mov (.v (.int .i64 0))), oo 11 (.mov (.v (.int .i64 0)))]) (.seq (.seq (.ops [oo 12 (.mov (.v (.int .i64 0)))]) (NY)) (.seq (.ops [oo 13 (.mov (.v .nils))]) (.seq (.seq (.ops [oo 14 (.mov (.v (.int .i64 0)))]) (NX)) (.seq (.ops [oo 111 (.mov (.t 10)), oo 112 (.mov (.t 11)), oo 113 (.bin .eql (.t 111) (.t 112)), oo 114 (.mov (.t 113)), og 115 114 true (.call 27 []), oo 116 (.pick (.t 114) (.t 115) (.v (.bool false))), oo 4 (.mov (.t 116))]) .ret)))))))))))⟩
theorem c4 : aD Tryz.prog 4 = some F4 := by kernel_rfl
def xZ (L : List (List Upd)) : Nat := (L.map List.length).sum
theorem EO (L : List (List Upd)) {i : Nat} (hi : i < L.length) : xZ (L.take (i + 1)) = xZ (L.take i) + L[i].length := by
  unfold xZ
  rw [← List.take_append_getElem hi, List.map_append, List.sum_append]
  rfl
theorem EP (L : List (List Upd)) (h : ∀ l ∈ L, l.length ≤ 60) : xZ L ≤ 60 * L.length := by
  induction L with
  | nil => simp [xZ]
  | cons l r ih =>
    have h1 := h l List.mem_cons_self
    have h2 := ih (fun x hx => h x (List.mem_cons_of_mem _ hx))
    simp only [xZ, List.map_cons, List.sum_cons, List.length_cons] at h2 ⊢
    omega
theorem VU {L : List (List Upd)} {a0 a8 a10 : AV} {f : AF} {H : AH} {Q : AE → AF → AH → Prop} (hL : L.length ≤ 8) (hl : ∀ l ∈ L, l.length ≤ 60) (e0 : f 0 = a0) (e6 : f 6 = lupsA L) (e8 : f 8 = a8) (e10 : f 10 = a10) (e11 : f 11 = .int .i64 0) (e12 : f 12 = .int .i64 0)
    (hQ : ∀ f2, f2 0 = a0 → f2 8 = a8 → f2 10 = a10 → f2 11 = .int .i64 (xZ L) → Q .normal f2 H) : NY.wp Tryz.prog Q f H := by
  unfold NY
  have la : cZ (lupsA L) = some L.length := by simp [lupsA, cZ]
  simp only [push_cast, ↓reduceIte, Nat.reduceEqDiff, reduceCtorEq, Nat.reduceAdd, Nat.reduceLT, Nat.reduceLeDiff]
  refine aI (fun (i : Nat) f H' => H' = H ∧ i ≤ L.length ∧ f 0 = a0 ∧ f 6 = lupsA L ∧ f 8 = a8 ∧ f 10 = a10 ∧ f 11 = .int .i64 (xZ (L.take i) : Nat) ∧ f 12 = .int .i64 i) (fun i => L.length - i) 0 ⟨rfl, Nat.zero_le _, e0, e6, e8, e10, e11, e12⟩ ?_
  clear e0 e6 e8 e10 e11 e12
  rintro i f H' ⟨rfl, h1, e0, e6, e8, e10, e11, e12⟩
  by_cases hi : i < L.length
  · have hi' : (i : Int) < L.length := by omega
    have w1 : IntKind.i64.wrap ((i : Int) + 1) = ((i + 1 : Nat) : Int) := by rw [aE (by omega) (by omega)]; omega
    have ax : aF 1 (lupsA L) (.int .i64 (i : Int)) = some (.lptr 1 (L.map aZ) i 0) := cM (by rw [List.length_map]; exact hi) _
    have lx : (L.map aZ)[i]? = some (aZ L[i]) := by simp [hi]
    have p0 : ∀ l, part false 1 0 (aZ l) = some (aZ l) := fun _ => rfl
    have hs := EO L hi
    have hlen : cZ (aZ L[i]) = some L[i].length := by simp [aZ, cZ]
    have hb := EP (L.take i) (fun l h => hl l (List.mem_of_mem_take h))
    have hb2 := hl _ (List.getElem_mem hi)
    rw [List.length_take] at hb
    have w2 : IntKind.i64.wrap ((xZ (L.take i) : Int) + (L[i].length : Int)) = ((xZ (L.take (i + 1)) : Nat) : Int) := by rw [aE (by omega) (by omega), hs]; omega
    simp only [push_cast, ↓reduceIte, Nat.reduceEqDiff, reduceCtorEq, Nat.reduceAdd, Nat.reduceLT, Nat.reduceLeDiff, aB, aA, e0, e6, e8, e10, e11, e12, la, hi', ax, lx, p0, hlen, w2]
    exact ⟨i + 1, ⟨hi, by rw [w1]; exact ⟨rfl, rfl⟩⟩, by omega⟩
  · have hi' : ¬ (i : Int) < L.length := by omega
    obtain rfl : i = L.length := by omega
    rw [List.take_length] at e11
    simp only [push_cast, ↓reduceIte, Nat.reduceEqDiff, reduceCtorEq, Nat.reduceAdd, Nat.reduceLT, Nat.reduceLeDiff, aB, aA, e0, e6, e8, e10, e11, e12, la, hi']
    exact hQ _ e0 e8 e10 e11
theorem SM {us : List Upd} {key : Int} {k : List Val} {a8 a10 a11 a14 : AV} {f : AF} {H : AH} {Q : AE → AF → AH → Prop} (hk0 : 0 ≤ key) (hul : us.length < 1099511627776) (hus : ∀ u ∈ us, key.toNat ≤ u.f0.length ∧ bG (u.f0.take key.toNat) k = 0) (hkl : k.length < 1099511627776) (hkey : key < 100) (e0 : f 0 = .int .i64 key) (e8 : f 8 = a8) (e10 : f 10 = a10) (e11 : f 11 = a11) (e14 : f 14 = a14) (e15 : f 15 = aS k) (e16 : f 16 = aZ us) (e17 : f 17 = .int .i64 0)
    (hQ : ∀ f2, f2 0 = .int .i64 key → f2 8 = a8 → f2 10 = a10 → f2 11 = a11 → f2 14 = a14 → f2 15 = aS k → f2 16 = aZ us → Q .normal f2 H) : NW.wp Tryz.prog Q f H := by
  unfold NW
  have la : cZ (aZ us) = some us.length := by simp [aZ, cZ]
  simp only [push_cast, ↓reduceIte, Nat.reduceEqDiff, reduceCtorEq, Nat.reduceAdd, Nat.reduceLT, Nat.reduceLeDiff]
  refine aI (fun (i : Nat) f H' => H' = H ∧ i ≤ us.length ∧ f 0 = .int .i64 key ∧ f 8 = a8 ∧ f 10 = a10 ∧ f 11 = a11 ∧ f 14 = a14 ∧ f 15 = aS k ∧ f 16 = aZ us ∧ f 17 = .int .i64 i) (fun i => us.length - i) 0 ⟨rfl, Nat.zero_le _, e0, e8, e10, e11, e14, e15, e16, e17⟩ ?_
  clear e0 e8 e10 e11 e14 e15 e16 e17
  rintro i f H' ⟨rfl, h1, e0, e8, e10, e11, e14, e15, e16, e17⟩
  by_cases hi : i < us.length
  · have hi' : (i : Int) < us.length := by omega
    have w1 : IntKind.i64.wrap ((i : Int) + 1) = ((i + 1 : Nat) : Int) := by rw [aE (by omega) (by omega)]; omega
    have ax : aF 4 (aZ us) (.int .i64 (i : Int)) = some (.lptr 4 (us.map upA) i 0) := cM (by rw [List.length_map]; exact hi) _
    have lx : (us.map upA)[i]? = some (upA us[i]) := by simp [hi]
    obtain ⟨u1, u2⟩ := hus _ (List.getElem_mem hi)
    generalize us[i] = u at *
    have p0 : part false 1 0 (upA u) = some (.list 3 (u.f0.map eC) false) := rfl
    have hnl : ¬ ((u.f0.length : Int) < key) := by omega
    have hkn : key = (key.toNat : Int) := by omega
    have nt : (!true) = false := rfl
    simp only [push_cast, ↓reduceIte, Nat.reduceEqDiff, reduceCtorEq, Nat.reduceAdd, Nat.reduceLT, Nat.reduceLeDiff, aB, aA, e0, e8, e10, e11, e14, e15, e16, e17, la, hi', ax, lx, p0, List.length_map, hnl, decide_false]
    rw [fS (k := key.toNat) (by show AV.int .i64 key = _; rw [← hkn]) (by rw [List.length_map]; exact u1)]
    simp only [push_cast, ↓reduceIte, Nat.reduceEqDiff, reduceCtorEq, Nat.reduceAdd, Nat.reduceLT, Nat.reduceLeDiff, aB, aA, e0, e8, e10, e11, e14, e15, e16, e17]
    (refine aC.look (NF (.list 3 ((u.f0.map eC).take key.toNat) false) (aS k) (u.f0.take key.toNat) k _ (by rw [← List.map_take]; rfl) rfl (by rw [List.length_take]; omega) hkl) ?_; simp only [push_cast, ↓reduceIte, Nat.reduceEqDiff, reduceCtorEq, Nat.reduceAdd, Nat.reduceLT, Nat.reduceLeDiff, aB, aA, u2, decide_true, nt, e0, e8, e10, e11, e14, e15, e16, e17])
    exact ⟨i + 1, ⟨hi, by rw [w1]⟩, by omega⟩
  · have hi' : ¬ (i : Int) < us.length := by omega
    simp only [push_cast, ↓reduceIte, Nat.reduceEqDiff, reduceCtorEq, Nat.reduceAdd, Nat.reduceLT, Nat.reduceLeDiff, aB, aA, e0, e8, e10, e11, e14, e15, e16, e17, la, hi']
    exact hQ _ e0 e8 e10 e11 e14 e15 e16
theorem VV {key : Int} {S : Nat} {ps0 : List Pl} {c : Nat} {v : AV} {ts : List Nat} {f : AF} {H0 H : AH} {Q : AE → AF → AH → Prop} (hkk : ps0 ≠ [] → 0 ≤ key ∧ key < 100) (hS : S < 1099511627776) (C : Cur H0 H c v ts ps0) (I : yE key.toNat gfB ps0) (B : BOk ps0) (hR : EF gfB ps0 = S)
    (e0 : f 0 = .int .i64 key) (e8 : f 8 = .ptr c 0 0) (e10 : f 10 = .int .i64 0) (e11 : f 11 = .int .i64 S) (e13 : f 13 = .nils) (e14 : f 14 = .int .i64 0)
    (hQ : ∀ f2 H2, H0 <+: H2 → f2 10 = .int .i64 S → f2 11 = .int .i64 S → Q .normal f2 H2) : NX.wp Tryz.prog Q f H := by
  unfold NX
  simp only [push_cast, ↓reduceIte, Nat.reduceEqDiff, reduceCtorEq, Nat.reduceAdd, Nat.reduceLT, Nat.reduceLeDiff]
  refine aI (fun (s : Nat × Nat × List Val × List Pl) f H' => Cur H0 H' c v ts s.2.2.2 ∧ (s.2.2.2 ≠ [] → 0 ≤ key ∧ key < 100) ∧ yE key.toNat gfB s.2.2.2 ∧ BOk s.2.2.2 ∧ s.2.1 + EF gfB s.2.2.2 = S ∧ s.1 ≤ s.2.1 ∧ s.2.2.1.length < 1099511627776 ∧ (0 < s.1 → ∀ p ∈ s.2.2.2, ∀ x, p.key = some x → bG s.2.2.1 x < 0) ∧ f 0 = .int .i64 key ∧ f 8 = .ptr c 0 0 ∧ f 10 = .int .i64 s.2.1 ∧ f 11 = .int .i64 S ∧ (0 < s.1 → f 13 = aS s.2.2.1) ∧ f 14 = .int .i64 s.1) (fun s => EF gfB s.2.2.2) (0, 0, [], ps0) ⟨C, hkk, I, B, by dsimp only; omega, Nat.le_refl _, by dsimp only; decide, fun h => absurd h (Nat.lt_irrefl _), e0, e8, e10, e11, fun h => absurd h (Nat.lt_irrefl _), e14⟩ ?_
  clear e0 e8 e10 e11 e13 e14 C I B hR hkk
  rintro ⟨i, n, last, ps⟩ f H' ⟨C, hkk, I, B, hn, hi, hll, hlast, e0, e8, e10, e11, e13, e14⟩
  dsimp only at C hkk I B hn hi hll hlast e10 e13 e14
  have hok := B.psok I
  have hgs := B.gsok I
  simp only [push_cast, ↓reduceIte, Nat.reduceEqDiff, reduceCtorEq, Nat.reduceAdd, Nat.reduceLT, Nat.reduceLeDiff, e8]
  cases hk : cJ ps with
  | none =>
    have hr : EF gfB ps = 0 := by
      have hz := xY hk
      unfold EF
      have hall : ∀ p ∈ ps, ES gfB p = 0 := fun p hp => by
        have h1 := hz p hp
        unfold Pl.key at h1
        rw [List.getElem?_eq_none_iff, (I.gs p hp).keys, List.length_map] at h1
        unfold ES
        rw [List.drop_eq_nil_of_le h1]
        rfl
      clear hz hn I B C hok hgs hlast hk hkk
      induction ps with
      | nil => rfl
      | cons p r ih =>
        rw [List.map_cons, List.sum_cons, hall p List.mem_cons_self, ih (fun q hq => hall q (List.mem_cons_of_mem _ hq))]
    have i0 : (none : Option (List Val)).isSome = false := rfl
    (refine aC.look (uD C hok) ?_; simp only [push_cast, ↓reduceIte, Nat.reduceEqDiff, reduceCtorEq, Nat.reduceAdd, Nat.reduceLT, Nat.reduceLeDiff, aB, aA, hk, i0, e0, e8, e10, e11, e14])
    refine hQ _ _ C.o.pre ?_ e11
    rw [← hn, hr]
    exact e10
  | some k =>
    have i0 : (some k : Option (List Val)).isSome = true := rfl
    have gk : (some k : Option (List Val)).getD [] = k := rfl
    obtain ⟨hk0, hkey⟩ := hkk (fun e => by rw [e] at hk; cases hk)
    have hkk2 : jW ps ≠ [] → 0 ≤ key ∧ key < 100 := fun _ => ⟨hk0, hkey⟩
    have hstep := IG I hk
    have hpos := NS I hk
    have hrows := IH I hk
    have hkl := hok.least hk
    obtain ⟨I2, hlt⟩ := I.next hk
    have hlk : 0 < i → bG last k < 0 := fun h => by
      obtain ⟨p, hp, hpk⟩ := rS hk
      exact hlast h p hp k hpk
    have hN := RR C hok
    have hul : cZ (aZ (eG gfB ps)) = some (eG gfB ps).length := by simp [aZ, cZ]
    have hcu := RS (gf := gfB) C hok hgs (by omega)
    have w1 : IntKind.i64.wrap ((i : Int) + 1) = ((i + 1 : Nat) : Int) := by rw [aE (by omega) (by omega)]; omega
    have w2 : IntKind.i64.wrap ((n : Int) + ((eG gfB ps).length : Int)) = ((n + (eG gfB ps).length : Nat) : Int) := by rw [aE (by omega) (by omega)]; omega
    have hiS : ¬ ((i : Int) > S) := by omega
    generalize eG gfB ps = us at *
    by_cases hi0 : 0 < i
    · have hlk' := hlk hi0
      have e13' := e13 hi0
      have hi0' : (i : Int) > 0 := by omega
      have hng : ¬ (bG last k ≥ 0) := by omega
      (refine aC.look (uD C hok) ?_; simp only [push_cast, ↓reduceIte, Nat.reduceEqDiff, reduceCtorEq, Nat.reduceAdd, Nat.reduceLT, Nat.reduceLeDiff, aB, aA, hk, i0, e0, e8, e10, e11, e13', e14])
      (refine aC.look (JT C hok) ?_; simp only [push_cast, ↓reduceIte, Nat.reduceEqDiff, reduceCtorEq, Nat.reduceAdd, Nat.reduceLT, Nat.reduceLeDiff, aB, aA, hk, gk, e0, e8, e10, e11, e13', e14, hi0', decide_true])
      (refine aC.look (pJ (aS last) (aS k) last k _ rfl rfl hll hkl) ?_; simp only [push_cast, ↓reduceIte, Nat.reduceEqDiff, reduceCtorEq, Nat.reduceAdd, Nat.reduceLT, Nat.reduceLeDiff, aB, aA, hng, hiS, decide_false, e0, e8, e10, e11, e13', e14])
      (refine aC.look (hcu) ?_; simp only [push_cast, ↓reduceIte, Nat.reduceEqDiff, reduceCtorEq, Nat.reduceAdd, Nat.reduceLT, Nat.reduceLeDiff, aB, aA, e0, e8, e10, e11, e13', e14])
      refine SM (us := us) (key := key) (k := k) hk0 (by omega) hrows hkl hkey (by exact e0) (by exact e8) (by exact e10) (by exact e11) (by exact e14) (by rfl) (by rfl) (by rfl) fun f2 e0 e8 e10 e11 e14 e15 e16 => ?_
      simp only [push_cast, ↓reduceIte, Nat.reduceEqDiff, reduceCtorEq, Nat.reduceAdd, Nat.reduceLT, Nat.reduceLeDiff, e0, e8, e10, e11, e14, e15, e16, hul, w2]
      refine hN.mono fun r H2 ⟨hr, C2⟩ => ?_
      subst hr
      simp only [push_cast, ↓reduceIte, Nat.reduceEqDiff, reduceCtorEq, Nat.reduceAdd, Nat.reduceLT, Nat.reduceLeDiff, e0, e8, e10, e11, e14, e15, e16]
      exact ⟨(i + 1, n + us.length, k, jW ps), ⟨C2, hkk2, I2, B.next, by dsimp only; omega, by dsimp only; omega, hkl, fun _ => hlt, rfl, fun _ => rfl, by dsimp only; rw [w1]⟩, by dsimp only; omega⟩
    · have hi0' : ¬ (i : Int) > 0 := by omega
      (refine aC.look (uD C hok) ?_; simp only [push_cast, ↓reduceIte, Nat.reduceEqDiff, reduceCtorEq, Nat.reduceAdd, Nat.reduceLT, Nat.reduceLeDiff, aB, aA, hk, i0, e0, e8, e10, e11, e14])
      (refine aC.look (JT C hok) ?_; simp only [push_cast, ↓reduceIte, Nat.reduceEqDiff, reduceCtorEq, Nat.reduceAdd, Nat.reduceLT, Nat.reduceLeDiff, aB, aA, hk, gk, e0, e8, e10, e11, e14, hi0', hiS, decide_false])
      (refine aC.look (hcu) ?_; simp only [push_cast, ↓reduceIte, Nat.reduceEqDiff, reduceCtorEq, Nat.reduceAdd, Nat.reduceLT, Nat.reduceLeDiff, aB, aA, e0, e8, e10, e11, e14])
      refine SM (us := us) (key := key) (k := k) hk0 (by omega) hrows hkl hkey (by exact e0) (by exact e8) (by exact e10) (by exact e11) (by exact e14) (by rfl) (by rfl) (by rfl) fun f2 e0 e8 e10 e11 e14 e15 e16 => ?_
      simp only [push_cast, ↓reduceIte, Nat.reduceEqDiff, reduceCtorEq, Nat.reduceAdd, Nat.reduceLT, Nat.reduceLeDiff, e0, e8, e10, e11, e14, e15, e16, hul, w2]
      refine hN.mono fun r H2 ⟨hr, C2⟩ => ?_
      subst hr
      simp only [push_cast, ↓reduceIte, Nat.reduceEqDiff, reduceCtorEq, Nat.reduceAdd, Nat.reduceLT, Nat.reduceLeDiff, e0, e8, e10, e11, e14, e15, e16]
      exact ⟨(i + 1, n + us.length, k, jW ps), ⟨C2, hkk2, I2, B.next, by dsimp only; omega, by dsimp only; omega, hkl, fun _ => hlt, rfl, fun _ => rfl, by dsimp only; rw [w1]⟩, by dsimp only; omega⟩
theorem EQ {L : List (List Upd)} (h : ¬ L.any eI = true) : ∀ l ∈ L, eI l = false := fun l hl => by
  cases hm : eI l with
  | false => rfl
  | true => exact absurd (List.any_eq_true.2 ⟨l, hl, hm⟩) h
theorem seekAll_law (key : Int) (wk : (Lit.int .i64 key).wf = true) (L : List (List Upd)) (gL : GL (GL GU) L) (H : AH) : aC Tryz.prog 4 [.int .i64 key, lupsA L] H fun r H' => r = .bool true ∧ H' = H := by
  refine aG c4 (fun _ => rfl) (by simp [F4]) ?_
  unfold F4
  have la : cZ (lupsA L) = some L.length := by simp [lupsA, cZ]
  by_cases h8 : L.length > 8
  · have h8' : (L.length : Int) > 8 := by omega
    simp only [push_cast, ↓reduceIte, Nat.reduceEqDiff, reduceCtorEq, Nat.reduceAdd, Nat.reduceLT, Nat.reduceLeDiff, la, h8', decide_true]
    (refine aC.look (EH _) ?_; try simp only [push_cast, ↓reduceIte, Nat.reduceEqDiff, reduceCtorEq, Nat.reduceAdd, Nat.reduceLT, Nat.reduceLeDiff, aB, aA])
    (repeat (first | exact List.prefix_refl _ | refine List.IsPrefix.trans ?_ (List.prefix_append _ _)))
  have h8' : ¬ (L.length : Int) > 8 := by omega
  simp only [push_cast, ↓reduceIte, Nat.reduceEqDiff, reduceCtorEq, Nat.reduceAdd, Nat.reduceLT, Nat.reduceLeDiff, la, h8', decide_false]
  have hmade := SL key L (by omega) (fun l hl u hu => SK ((gL.2 l hl).2 u hu).2.2) H
  by_cases hm : L.any eI = true
  · have hA : lY key L = .tup [.list 1 [] false, .list 1 [] false, .bool false] := by rw [lY, if_pos hm]
    have nt : (!false) = true := rfl
    (refine aC.look (hmade) ?_; simp only [push_cast, ↓reduceIte, Nat.reduceEqDiff, reduceCtorEq, Nat.reduceAdd, Nat.reduceLT, Nat.reduceLeDiff, aB, aA, hA, nt])
    (refine aC.look (EH _) ?_; try simp only [push_cast, ↓reduceIte, Nat.reduceEqDiff, reduceCtorEq, Nat.reduceAdd, Nat.reduceLT, Nat.reduceLeDiff, aB, aA])
    (repeat (first | exact List.prefix_refl _ | refine List.IsPrefix.trans ?_ (List.prefix_append _ _)))
  · have hA : lY key L = .tup [IL key L, EK key L, .bool true] := by rw [lY, if_neg hm]
    have nt : (!true) = false := rfl
    have hmf := EQ hm
    have hok : ∀ l ∈ okL key L, bW key l [] = 0 ∧ eI l = false := fun l hl => by
      obtain ⟨h1, h2⟩ := List.mem_filter.1 hl
      exact ⟨by simpa using h2, hmf l h1⟩
    have hll : (okL key L).length ≤ 8 := by have := EL key L; omega
    have hseek := EN key (okL key L) hll (fun l hl => (hok l hl).2) H
    have hB : BOk (ET key (okL key L)) := EM hll (fun l hl => (hok l hl).2)
    have hI := II (fun l hl => (hok l hl).1)
    have hR := IJ (fun l hl => (hok l hl).1)
    have hch : EK key L = lupsA ((okL key L).map fun l => lW key l []) := by
      unfold EK lupsA
      rw [List.map_map]
      rfl
    have hS : EF gfB (ET key (okL key L)) = xZ ((okL key L).map fun l => lW key l []) := by
      rw [hR]
      unfold xZ
      rw [List.map_map]
      rfl
    have hcl : ∀ l ∈ (okL key L).map fun l => lW key l [], l.length ≤ 60 := fun c hc => by
      obtain ⟨l, hl, rfl⟩ := List.mem_map.1 hc
      obtain ⟨m1, m2⟩ := pR (hok l hl).2
      have := (eR l).1
      rw [kI (hok l hl).1]
      omega
    have hkey : okL key L ≠ [] → 0 ≤ key ∧ key ≤ 16 := fun h => by
      cases ho : okL key L with
      | nil => exact absurd ho h
      | cons l r =>
        have := (hok l (by rw [ho]; exact List.mem_cons_self)).1
        obtain ⟨a, b, _⟩ := lX this
        exact ⟨a, b⟩
    have hlm : ((okL key L).map fun l => lW key l []).length ≤ 8 := by rw [List.length_map]; exact hll
    have hSb := EP _ hcl
    (refine aC.look (hmade) ?_; simp only [push_cast, ↓reduceIte, Nat.reduceEqDiff, reduceCtorEq, Nat.reduceAdd, Nat.reduceLT, Nat.reduceLeDiff, aB, aA, hA, nt])
    unfold IL
    refine hseek.mono fun r H1 ⟨v, ts, hr, C⟩ => ?_
    subst hr
    simp only [push_cast, ↓reduceIte, Nat.reduceEqDiff, reduceCtorEq, Nat.reduceAdd, Nat.reduceLT, Nat.reduceLeDiff]
    (refine aC.look (JY _ _) ?_; try simp only [push_cast, ↓reduceIte, Nat.reduceEqDiff, reduceCtorEq, Nat.reduceAdd, Nat.reduceLT, Nat.reduceLeDiff, aB, aA])
    rw [hch]
    refine VU (L := (okL key L).map fun l => lW key l []) hlm hcl (by rfl) (by rfl) (by rfl) (by rfl) (by rfl) (by rfl) fun f2 e0 e8 e10 e11 => ?_
    simp only [push_cast, ↓reduceIte, Nat.reduceEqDiff, reduceCtorEq, Nat.reduceAdd, Nat.reduceLT, Nat.reduceLeDiff, e0, e8, e10, e11]
    refine VV (S := xZ ((okL key L).map fun l => lW key l [])) (key := key) (ps0 := ET key (okL key L)) (fun h => ?_) (by omega) C hI hB hS (by exact e0) (by exact e8) (by exact e10) (by exact e11) (by rfl) (by rfl) fun f3 H3 hp e10 e11 => ?_
    · have := hkey (fun e => h (by unfold ET; rw [e]; rfl))
      omega
    · simp only [push_cast, ↓reduceIte, Nat.reduceEqDiff, reduceCtorEq, Nat.reduceAdd, Nat.reduceLT, Nat.reduceLeDiff, e10, e11]
      (refine aC.look (EH _) ?_; try simp only [push_cast, ↓reduceIte, Nat.reduceEqDiff, reduceCtorEq, Nat.reduceAdd, Nat.reduceLT, Nat.reduceLeDiff, aB, aA])
      (repeat (first | exact List.prefix_refl _ | refine List.IsPrefix.trans ?_ (List.prefix_append _ _)))
      exact hp
end Go.Eng
end
