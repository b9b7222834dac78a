/- Run. -/
import Derived.Test.YtpflmgbpjhbmnaaGreatQBm20
import Derived.Test.YtpflmgbpjhbmnaaGreatQBm22
import Derived.Test.YtpflmgbpjhbmnaaGreatQBm21
import Derived.Deep.RegionHeld3
section
namespace Go.Proofs.YtpflmgbpjhbmnaaGreat.B
open Go Go.RowKit Go.Proofs Go.Proofs.YtpflmgbpjhbmnaaGreatW.PrintWords Go.Proofs.YtpflmgbpjhbmnaaGreatW.PrintLast Go.Proofs.YtpflmgbpjhbmnaaGreatW.PrintMore Go.Proofs.YtpflmgbpjhbmnaaGreat.Rg
set_option linter.unusedVariables false
set_option linter.unusedSimpArgs false
set_option maxRecDepth 100000
def mP (k : List S85) (y : Rst) : List S61 := y.2.map fun q => ⟨k ++ y.1, q.1, q.2⟩
def fW (x : List S85 × List Rst) : List S61 := x.2.flatMap (mP x.1)
theorem CT (a b : List S85) (ha : a.length ≤ 1099511627776) (hb : b.length ≤ 1099511627776) : cX.f 3 [a, b] = some (a ++ b) := by
 unfold cX.f
 have e0 : dH [a, b] 0 = a := rfl
 have e1 : dH [a, b] 1 = b := rfl
 have w1 : wrap64 (0 + 1) = 1 := by unfold wrap64; omega
 have w2 : wrap64 (1 + 1) = 2 := by unfold wrap64; omega
 simp only [cX.l0]
 rw [if_pos (by simp), if_pos (by simp), if_pos (by simp), e0, if_pos (by simp; omega), w1, if_pos (by simp), if_pos (by simp), if_pos (by simp)]
 rw [e1, if_pos (by simp; omega), w2, if_neg (by simp)]
 simp
theorem CU {W : World} {g t : Nat} {x y : Value} {a b : List S85} (hb : W.heap[g]? = some (.cells #[x, y] t (0, 0))) (h1 : kV.K W a [x]) (h2 : kV.K W b [y]) : Kd.C kV W (some ⟨g, 0, none⟩) 2 [a, b] := by
 refine ⟨rfl, by omega, fun _ => ⟨⟨g, 0, none⟩, rfl, fun j p hj => ?_⟩⟩
 match j with
 | 0 =>
  cases hj
  refine ⟨[x], rfl, h1, fun i u hu => ?_⟩
  match i with
  | 0 => cases hu; exact aE hb 0
  | n + 1 => cases hu
 | 1 =>
  cases hj
  refine ⟨[y], rfl, h2, fun i u hu => ?_⟩
  match i with
  | 0 => cases hu; exact aE hb 1
  | n + 1 => cases hu
 | n + 2 => cases hj
theorem gO {α β : Type} (f : α → List β) : ∀ g : List α, (∀ x ∈ g, f x ≠ []) → g.length ≤ (g.flatMap f).length
 | [], _ => Nat.zero_le _
 | x :: r, h => by
  have h1 := gO f r (fun y hy => h y (List.mem_cons_of_mem _ hy))
  have h2 : 0 < (f x).length := List.length_pos_iff.2 (h x List.mem_cons_self)
  simp only [List.flatMap_cons, List.length_append, List.length_cons]
  omega
section
variable {P : Program} {ops : Array Oper} {o : Oper} {a : Act} {Q : Exit → Act → World → Prop} {Kc : Act → World → Prop} {E : Prop}
theorem zX {w wr W0 W1 W : World} (hgd : o.guard = none) (s x : Operand)
  (ho : o.op = .call { callee := .builtin .append, args := #[s, x], argTypes := #[22, 22] }) (hu : P.underlying 22 = some (.slice 61)) (hinfo : (P.info? 61).map (fun i => (i.zero, i.size, i.bytes)) = some (some (.agg #[(.slice none 0 0), (.int .i64 0), (.int .i64 0), (.int .i64 0)]), 4, 48))
  (v : Value) (xs : List S61) (HO : Kd.S k61 61 wr w.heap.size (fun _ => True) v xs) (hb : Below w.heap.size w wr) (h0 : Below wr.heap.size wr W0)
  (A : Option Addr) (c : Nat) (r : List S85) (HR : Kd.R k85 85 W1 W0.heap.size (fun _ => True) (.slice A r.length c) r) (h1 : Below W0.heap.size W0 W1) (h2 : Below W1.heap.size W1 W)
  (e f d : Int) (B m : Nat) (hB : W.heap[B]? = some (.cells #[.slice A r.length c, .int .i64 e, .int .i64 f, .int .i64 d] 61 (0, 0))) (hs : a.eval s = v) (hx : a.eval x = .slice (some ⟨B, 0, none⟩) 1 m) (hl : xs.length < 1099511627776)
  (h : ∀ g cap w1, aA (Kd.S k61 61 w1 w.heap.size (fun _ => True) (.slice (some ⟨g, 0, none⟩) (xs.length + 1) cap) (xs ++ [⟨r, ⟨e, f⟩, d⟩])) → aA (Below w.heap.size w w1) → Kc (a.put o.dst (.slice (some ⟨g, 0, none⟩) (xs.length + 1) cap)) w1) :
  if Region.wanted o (yielded ops a.tmps) = true then Oper.wp P o a W Kc Q else E := by
 have hz0 := h0.size
 have hz1 := h1.size
 have hz2 := h2.size
 have hzb := hb.size
 have b1 : Below wr.heap.size wr W := (h0.trans (h1.mono hz0)).trans (h2.mono (Nat.le_trans hz0 hz1))
 have hlt : ∀ k, v.ownBlock = some k → k < wr.heap.size := Kd.S_lt HO
 have hR2 := Kd.R_below HR h2
 have hgt : ∀ k, (Value.slice A r.length c).ownBlock = some k → W0.heap.size ≤ k := fun k hk => Kd.R_base hR2 k hk
 refine sH k61 w.heap.size hgd s x 22 61 (.agg #[(.slice none 0 0), (.int .i64 0), (.int .i64 0), (.int .i64 0)]) 48 ho hu hinfo rfl (by decide) (by omega) v xs ⟨r, ⟨e, f⟩, d⟩ [.slice A r.length c, .int .i64 e, .int .i64 f, .int .i64 d] (fun _ => True) (fun k => some k = (Value.slice A r.length c).ownBlock) B m 61 (0, 0) hs hx hB ?_ ?_ (fun _ _ => trivial) ?_ ?_ (by omega) ?_
 ·exact kU _ _ _ ⟨r, ⟨e, f⟩, d⟩ (Kd.R_lower (Kd.R_tight rfl hR2) (by omega))
 ·intro k hk
  refine ⟨trivial, fun e => ?_⟩
  have := hlt k e.symm
  have := hgt k hk.symm
  omega
 ·refine Kd.S_mono (Kd.S_below (Kd.S_bound HO) b1) (fun k hk => ⟨trivial, fun e => ?_⟩)
  have := hk.2.2.1
  have := hgt k e.symm
  omega
 ·have := b1.size; omega
 ·intro g cap w1 g1 g2
  exact h g cap w1 ⟨g1⟩ ⟨Below.grown (hb.trans (b1.mono hzb)) g2 (by have := b1.size; omega) (fun k hk => Kd.S_base HO k hk)⟩
end
theorem zY (all rs : List Rst) (fr : Nat) (key : List S85) : ∀ (n a : Nat), a = fr + n → n ≤ rs.length → (∀ m, m < rs.length → all[fr + m]? = rs[m]?) → a ≤ all.length → ((rs.take n).flatMap (mP key)).length ≤ ((all.map (·.2.length)).take a).sum := by
 intro n
 induction n with
 | zero => intro a _ _ _ _; simp
 | succ n ih =>
  intro a ha hn hat hal
  have h1 := ih (fr + n) rfl (by omega) hat (by omega)
  have hlt : n < rs.length := by omega
  have h2 := hat n hlt
  have hfl : fr + n < all.length := by omega
  rw [List.getElem?_eq_getElem hfl, List.getElem?_eq_getElem hlt] at h2
  have h3 := gN (all.map (·.2.length)) (fr + n) (by simpa using hfl)
  have e : rs.take (n + 1) = rs.take n ++ [rs[n]] := by rw [List.take_add_one, List.getElem?_eq_getElem hlt]; rfl
  rw [ha, ← Nat.add_assoc, h3, e, List.flatMap_append, List.length_append]
  have h4 : ([rs[n]].flatMap (mP key)).length = rs[n].2.length := by simp [mP]
  have h5 : (all.map (·.2.length))[fr + n]'(by simpa using hfl) = rs[n].2.length := by
   simp [Option.some.inj h2]
  rw [h4, h5]
  omega
set_option maxHeartbeats 16000000 in
theorem oT (p : Nat) (b : Bt) (A : Nat → Option Addr) (c : Nat → Nat) (g : Gr) (i : Nat) (w : World) (hB : eU w p b A c) (hg : Gs b g) (hi : i < g.length) (hl : b.times.length < 1099511627776) (hk : ∀ x ∈ g, x.1.length ≤ 1099511627776) (hr : ∀ y ∈ g.flatMap (·.2), y.1.length ≤ 1099511627776) :
  Calls Tryz.prog 24 #[.pointer (some ⟨p, 0, none⟩), .int .i64 i] w fun e w' => ∃ v0_ : Value, e = .returned v0_ ∧ Kd.S k61 61 w' w.heap.size (fun _ => True) v0_ (fW g[i]) ∧ Below w.heap.size w w' := by
 have HB := aA.mk hB
 have HG := aA.mk hg
 clear hB hg
 have hklen : b.keys.length = g.length := by rw [HG.out.keys, List.length_map]
 have HHas := aA.mk (lJ p b A c (i : Int) w HB.out)
 have hhas : decide (0 ≤ (i : Int) ∧ (i : Int) < (b.keys.length : Int)) = true := decide_eq_true (by omega)
 rw [hhas] at HHas
 clear hhas
 obtain ⟨all, hall⟩ : ∃ all : List Rst, all = g.flatMap (·.2) := ⟨_, rfl⟩
 rw [← hall] at hr
 have hne1 := HG.out.ne1
 have hne2 := HG.out.ne2
 rw [← hall] at hne2
 have hrl : b.rests.length = all.length := by rw [HG.out.rests, List.length_map, hall]
 have hel : b.ends.length = all.length := by rw [HG.out.ends, rE, List.length_map, hall]
 have htl : b.times.length = (all.flatMap (·.2)).length := by rw [HG.out.times, List.length_map, hall]
 have hdl : b.diffs.length = (all.flatMap (·.2)).length := by rw [HG.out.diffs, List.length_map, hall]
 have hal : all.length ≤ 1099511627776 := by have := gO (·.2) all hne2; omega
 have hgl : g.length ≤ 1099511627776 := by have h1 := gO (·.2) g hne1; rw [← hall] at h1; omega
 obtain ⟨fr, hfr⟩ : ∃ fr : Nat, fr = ((g.map (·.2.length)).take i).sum := ⟨_, rfl⟩
 obtain ⟨te, hto⟩ : ∃ te : Nat, te = ((g.map (·.2.length)).take (i + 1)).sum := ⟨_, rfl⟩
 have hfrt : te = fr + g[i].2.length := by
  have h1 := gN (g.map (·.2.length)) i (by simpa using hi)
  rw [hto, hfr, h1]; simp
 have htal : te ≤ all.length := by rw [hto, hall]; exact nI (·.2) g (i + 1)
 have HAt : ∀ n, n < g[i].2.length → all[fr + n]? = g[i].2[n]? := fun n hn => by rw [hall, hfr]; exact flat_get (·.2) g i n hi hn
 have HSpan : aA (∀ W, Below w.heap.size w W → Calls Tryz.prog 64 #[.slice (A 4) b.kend.length (c 4), .int .i64 i] W fun e w' => e = .returned (.tuple #[.int .i64 fr, .int .i64 te]) ∧ aA (Below w.heap.size w w')) := ⟨fun W hW => by
  have hk4 := (HB.out.below hW).kend
  refine (eZ.calls (A 4) (c 4) b.kend (i : Int) fr te W hk4.2.2 hk4.2.1 ?_).mono ?_
  ·rw [HG.out.kend, lH _ i (by simpa using hi) (by simpa using hgl), hfr, hto]
  ·rintro e w' ⟨g1, g2⟩
   exact ⟨g1, ⟨hW.trans (g2.below.mono hW.size)⟩⟩⟩
 have HSpan2 : aA (∀ (a : Nat), a < all.length → ∀ W, Below w.heap.size w W → Calls Tryz.prog 64 #[.slice (A 6) b.ends.length (c 6), .int .i64 a] W fun e w' => e = .returned (.tuple #[.int .i64 (((all.map (·.2.length)).take a).sum : Nat), .int .i64 (((all.map (·.2.length)).take (a + 1)).sum : Nat)]) ∧ aA (Below w.heap.size w w') ∧ aA (Below W.heap.size W w')) := ⟨fun a ha W hW => by
  have hk4 := (HB.out.below hW).ends
  refine (eZ.calls (A 6) (c 6) b.ends (a : Int) (((all.map (·.2.length)).take a).sum : Nat) (((all.map (·.2.length)).take (a + 1)).sum : Nat) W hk4.2.2 hk4.2.1 ?_).mono ?_
  ·rw [HG.out.ends, ← hall, lH _ a (by simpa using ha) (by simpa using hal)]
  ·rintro e w' ⟨g1, g2⟩
   exact ⟨g1, ⟨hW.trans (g2.below.mono hW.size)⟩, ⟨g2.below⟩⟩⟩
 have HKey : dH b.keys (i : Int) = g[i].1 := by
  rw [HG.out.keys]; simp [dH, List.getD, hi]
 have HRest : ∀ (a : Nat) (ha : a < all.length), dH b.rests (a : Int) = all[a].1 := fun a ha => by
  rw [HG.out.rests, ← hall]; simp [dH, List.getD, ha]
 have HTim : ∀ (j : Nat) (q : S59 × Int), (all.flatMap (·.2))[j]? = some q → bN b.times (j : Int) = q.1 ∧ rd b.diffs (j : Int) = q.2 := fun j q hq => by
  rw [HG.out.times, HG.out.diffs, ← hall]
  constructor
  ·simp [bN, List.getD, List.getElem?_map, hq]
  ·simp [rd, List.getD, List.getElem?_map, hq]
 -- the key's own cells
 obtain ⟨ad3, A', c', e3, hy0, hyl, hyC⟩ := jL HB.out.keys.2.2 (i : Int) (by omega) (by omega)
 rw [HKey] at hy0 hyl hyC
 rw [Int.toNat_natCast] at hy0
 have q3 := HB.out.keys.1
 have q5 := HB.out.rests.1
 have q7 := HB.out.times.1
 have q8 := HB.out.diffs.1
 have q6 := HB.out.ends.1
 have q4 := HB.out.kend.1
 rw [e3] at q3
 have hkk := hk g[i] (List.getElem_mem hi)
 have HP := aA.mk (And.intro hr (And.intro hrl (And.intro hel (And.intro htl (And.intro hdl (And.intro hne2 (And.intro hkk (And.intro hyl hyC))))))))
 have HQ := aA.mk (And.intro HAt (And.intro HRest HTim))
 have HF := aA.mk (And.intro hfrt (And.intro htal (And.intro hal (And.intro hl (And.intro hi hklen)))))
 obtain ⟨rs, hrs⟩ : ∃ rs, rs = g[i].2 := ⟨_, rfl⟩
 obtain ⟨key, hkey⟩ : ∃ key, key = g[i].1 := ⟨_, rfl⟩
 have hrun : fW g[i] = rs.flatMap (mP key) := by rw [hrs, hkey]; rfl
 rw [hrun]
 rw [← hkey] at hy0
 rw [← hkey] at HP
 rw [← hrs] at HF HQ
 have hkl : b.keys.length ≤ 1099511627776 := by omega
 have hik : (i : Int) < (b.keys.length : Int) := by omega
 have hi0 : (0 : Int) ≤ (i : Int) := by omega
 clear hk hr hrl hel htl hdl hne1 hne2 hyl hyC hkk HAt HRest HTim HKey hfrt htal hal hgl hfr hto hklen hrun hrs hkey hall e3
 go_enter Tryz.func24, Tryz.ntmps24
 go_wp2_with (first
  | (go_at_call 63; refine HHas.out.mono ?_; rintro e w1 ⟨rfl, HB1⟩; have hc4 := (HB.out.below HB1).kend.1; have HB1' := aA.mk HB1; clear HB1)
  | (go_at_call 64; refine (HSpan.out _ HB1'.out).mono ?_; rintro e w2 ⟨rfl, HB2⟩))
 clear hc4
 go_loopw [5, 8] (fun v5 v8 wr => ∃ a : Nat, v8 = .int .i64 a ∧ fr ≤ a ∧ a ≤ te ∧ aA (Kd.S k61 61 wr w.heap.size (fun _ => True) v5 ((rs.take (a - fr)).flatMap (mP key))) ∧ aA (Below w.heap.size w wr)) (fun v5 v8 wr => te - (intOf v8).toNat)
 case atStart => exact ⟨fr, rfl, Nat.le_refl _, by have := HF.out.1; omega, ⟨by rw [Nat.sub_self]; exact Kd.S_nil _ _ _ _ _⟩, HB2⟩
 case round =>
  obtain ⟨a, rfl, ha1, ha2, HO, HBr⟩ := hrel
  by_cases hlt : a < te
  ·have hb1 : decide ((a : Int) < (te : Int)) = true := decide_eq_true (by omega)
   have hb2 : decide (a < te) = true := decide_eq_true hlt
   have hfrt := HF.out.1
   have htal := HF.out.2.1
   have hm : a - fr < rs.length := by omega
   have haa : a < all.length := by omega
   obtain ⟨y, hy⟩ : ∃ y, y = rs[a - fr] := ⟨_, rfl⟩
   have hya : all[a] = y := by
    have h1 := HQ.out.1 (a - fr) hm
    rw [show fr + (a - fr) = a by omega, List.getElem?_eq_getElem haa, List.getElem?_eq_getElem hm] at h1
    rw [hy]; exact Option.some.inj h1
   obtain ⟨fi, hfi⟩ : ∃ fi : Nat, fi = ((all.map (·.2.length)).take a).sum := ⟨_, rfl⟩
   obtain ⟨la, hla⟩ : ∃ la : Nat, la = ((all.map (·.2.length)).take (a + 1)).sum := ⟨_, rfl⟩
   have hlaf : la = fi + y.2.length := by
    have h1 := gN (all.map (·.2.length)) a (by simpa using haa)
    rw [hla, hfi, h1]; simp [hya]
   have hlt2 : la ≤ b.times.length := by rw [hla, HP.out.2.2.2.1]; exact nI (·.2) all (a + 1)
   have HSp := aA.mk (HSpan2.out a haa)
   rw [← hfi, ← hla] at HSp
   have HT : aA (∀ m q, y.2[m]? = some q → bN b.times ((fi + m : Nat) : Int) = q.1 ∧ rd b.diffs ((fi + m : Nat) : Int) = q.2) := ⟨fun m q hq => by
    refine HQ.out.2.2 (fi + m) q ?_
    have h1 := flat_get (·.2) all a m haa (by rw [hya]; exact (List.getElem?_eq_some_iff.1 hq).1)
    rw [hya, ← hfi] at h1
    exact h1.trans hq⟩
   have hrl := HP.out.2.1
   obtain ⟨ad5, A2, c2, e5, hz0, hzl, hzC⟩ := jL HB.out.rests.2.2 (a : Int) (by omega) (by omega)
   rw [HQ.out.2.1 a haa, hya] at hz0 hzl hzC
   rw [Int.toNat_natCast] at hz0
   have q5' := q5
   rw [e5] at q5'
   have hyl : y.1.length ≤ 1099511627776 := HP.out.1 y (by rw [← hya]; exact List.getElem_mem haa)
   obtain ⟨kr, hkr⟩ : ∃ kr, kr = key ++ y.1 := ⟨_, rfl⟩
   have HKR := aA.mk hkr
   have HJoin : aA (∀ W gb, W.heap[gb]? = some (.cells #[.slice A' key.length c', .slice A2 y.1.length c2] 45 (0, 0)) → Below w.heap.size w W → Calls Tryz.prog 65 #[.slice (some ⟨gb, 0, none⟩) 2 2] W fun e w' => ∃ A5 c5, e = .returned (.slice A5 kr.length c5) ∧ aA (Kd.R k85 85 w' W.heap.size (fun _ => True) (.slice A5 kr.length c5) kr) ∧ aA (Below W.heap.size W w') ∧ aA (Below w.heap.size w w')) := ⟨fun W gb hgb hW => by
    rw [hkr]
    refine (cX.calls 3 (some ⟨gb, 0, none⟩) 2 [key, y.1] (key ++ y.1) W (CU hgb ⟨A', c', rfl, HP.out.2.2.2.2.2.2.2.1, Kd.C_below HP.out.2.2.2.2.2.2.2.2 hW⟩ ⟨A2, c2, rfl, hzl, Kd.C_below hzC hW⟩) (by simp) (CT key y.1 HP.out.2.2.2.2.2.2.1 hyl)).mono ?_
    rintro e w' ⟨v0, rfl, g1, g2⟩
    obtain ⟨A5, c5, rfl⟩ := Kd.R_slice g1
    exact ⟨A5, c5, rfl, ⟨g1⟩, ⟨g2⟩, ⟨hW.trans (g2.mono hW.size)⟩⟩⟩
   have q6r := aH HBr.out q6
   have HY : aA (rs.take (a + 1 - fr) = rs.take (a - fr) ++ [y]) := ⟨by
    rw [show a + 1 - fr = (a - fr) + 1 by omega, List.take_add_one, List.getElem?_eq_getElem hm, hy]; rfl⟩
   have HLen : aA (((rs.take (a - fr)).flatMap (mP key)).length ≤ fi) := ⟨by
    rw [hfi]
    refine zY all rs fr key (a - fr) a (by omega) (by omega) HQ.out.1 (by omega)⟩
   have HM := aA.mk (And.intro hlaf (And.intro hlt2 (And.intro ha1 (And.intro hlt hrl))))
   have ha9 : (a : Int) < (b.rests.length : Int) := by omega
   have hab : (a : Int) ≤ 1099511627776 := by have := HF.out.2.2.1; omega
   have hal9 : a < b.rests.length := by omega
   clear hkr hm haa hy hya hfi hla hlaf hlt2 hzl hzC e5 hyl hfrt htal hrl
   go_wp2_with (go_at_call 64; refine (HSp.out _ HBr.out).mono ?_; rintro e w3 ⟨rfl, HB3, HB4⟩)
   obtain ⟨out, hout⟩ : ∃ out, out = (rs.take (a - fr)).flatMap (mP key) := ⟨_, rfl⟩
   rw [← hout] at HO HLen
   have HOut := aA.mk hout
   clear hout
   have HO3 := aA.mk (Kd.S_below HO.out HB4.out)
   clear HO HB4 q6r HBr
   go_loopw [5, 11] (fun v5 v11 wi => ∃ j : Nat, v11 = .int .i64 j ∧ fi ≤ j ∧ j ≤ la ∧ aA (Kd.S k61 61 wi w.heap.size (fun _ => True) v5 (out ++ (y.2.take (j - fi)).map fun q => ⟨kr, q.1, q.2⟩)) ∧ aA (Below w.heap.size w wi)) (fun v5 v11 wi => la - (intOf v11).toNat)
   case atStart => exact ⟨fi, rfl, Nat.le_refl _, by have := HM.out.1; omega, ⟨by rw [Nat.sub_self]; simpa using HO3.out⟩, HB3⟩
   case round =>
    obtain ⟨j, rfl, hj1, hj2, HO, HBi⟩ := hrel
    by_cases hjl : j < la
    ·have hb3 : decide ((j : Int) < (la : Int)) = true := decide_eq_true (by omega)
     have hb4 : decide (j < la) = true := decide_eq_true hjl
     have hj3 : j - fi < y.2.length := by have := HM.out.1; omega
     obtain ⟨q, hq⟩ : ∃ q, q = y.2[j - fi] := ⟨_, rfl⟩
     have hq2 := HT.out (j - fi) q (by rw [List.getElem?_eq_getElem hj3, hq])
     rw [show fi + (j - fi) = j by omega] at hq2
     have hjt : j < b.times.length := by have := HM.out.2.1; omega
     have hdt : j < b.diffs.length := by have h1 := HP.out.2.2.2.1; have h2 := HP.out.2.2.2.2.1; omega
     obtain ⟨ad7, e7, ht0, ht1⟩ := dW HB.out.times.2.2 (j : Int) (by omega) (by omega)
     obtain ⟨ad8, e8, hd0⟩ := Kd.at_int HB.out.diffs.2.2 (j : Int) (by omega) (by omega)
     rw [hq2.1] at ht0 ht1
     rw [hq2.2] at hd0
     rw [Int.toNat_natCast] at ht0 ht1 hd0
     have q7' := q7
     have q8' := q8
     rw [e7] at q7'
     rw [e8] at q8'
     obtain ⟨⟨t0, t1⟩, df⟩ := q
     dsimp only at ht0 ht1 hd0
     have HYj : aA (y.2.take (j + 1 - fi) = y.2.take (j - fi) ++ [(⟨t0, t1⟩, df)]) := ⟨by
      rw [show j + 1 - fi = (j - fi) + 1 by omega, List.take_add_one, List.getElem?_eq_getElem hj3, ← hq]; rfl⟩
     have hj9 : (j : Int) < (b.times.length : Int) := by omega
     have hj8 : (j : Int) < (b.diffs.length : Int) := by omega
     have hj0 : (0 : Int) ≤ (j : Int) := by omega
     have ha0 : (0 : Int) ≤ (a : Int) := by omega
     obtain ⟨lst, hlst⟩ : ∃ lst : List S61, lst = out ++ (y.2.take (j - fi)).map fun q => ⟨kr, q.1, q.2⟩ := ⟨_, rfl⟩
     have HLn : aA (lst.length < 1099511627776) := ⟨by
      have h1 := HLen.out
      have h2 := HM.out.2.1
      rw [hlst, List.length_append, List.length_map, List.length_take]; omega⟩
     rw [← hlst] at HO
     have HLst := aA.mk hlst
     clear hlst
     have HJJ := aA.mk (And.intro hj1 (And.intro hj2 hjl))
     clear hq hq2 e7 e8 hj3 hj1 hj2
     go_wp2_with fail
     go_region_held3 (fun w' => w'.cell? ⟨p, 3, none⟩ = some (.slice (some ad3) b.keys.length (c 3)) ∧ w'.cell? (ad3.add i) = some (.slice A' key.length c') ∧ w'.cell? ⟨p, 5, none⟩ = some (.slice (some ad5) b.rests.length (c 5)) ∧ w'.cell? (ad5.add a) = some (.slice A2 y.1.length c2) ∧ w'.cell? ⟨p, 7, none⟩ = some (.slice (some ad7) b.times.length (c 7)) ∧ w'.cell? (ad7.add (j * 2)) = some (.int .i64 t0) ∧ w'.cell? ⟨(ad7.add (j * 2)).block, (ad7.add (j * 2)).off + 1, none⟩ = some (.int .i64 t1) ∧ w'.cell? ⟨p, 8, none⟩ = some (.slice (some ad8) b.diffs.length (c 8)) ∧ w'.cell? (ad8.add j) = some (.int .i64 df)) (first | (exact ⟨aH (by repeat (first | exact HB7.out | exact HB6.out | exact HBi.out | apply aC | apply pw_below_drewN | apply aD)) q3, aH (by repeat (first | exact HB7.out | exact HB6.out | exact HBi.out | apply aC | apply pw_below_drewN | apply aD)) hy0, aH (by repeat (first | exact HB7.out | exact HB6.out | exact HBi.out | apply aC | apply pw_below_drewN | apply aD)) q5', aH (by repeat (first | exact HB7.out | exact HB6.out | exact HBi.out | apply aC | apply pw_below_drewN | apply aD)) hz0, aH (by repeat (first | exact HB7.out | exact HB6.out | exact HBi.out | apply aC | apply pw_below_drewN | apply aD)) q7', aH (by repeat (first | exact HB7.out | exact HB6.out | exact HBi.out | apply aC | apply pw_below_drewN | apply aD)) ht0, aH (by repeat (first | exact HB7.out | exact HB6.out | exact HBi.out | apply aC | apply pw_below_drewN | apply aD)) ht1, aH (by repeat (first | exact HB7.out | exact HB6.out | exact HBi.out | apply aC | apply pw_below_drewN | apply aD)) q8', aH (by repeat (first | exact HB7.out | exact HB6.out | exact HBi.out | apply aC | apply pw_below_drewN | apply aD)) hd0⟩) | go_keep) (first
      | ((go_at_call 65; refine (HJoin.out _ _ (by repeat (first | exact heap_alloc_new _ _ | refine aJ ?_ _ | refine aK ?_ | refine aI ?_ _)) (by repeat (first | exact HBi.out | apply aC | apply pw_below_drewN | apply aD))).mono ?_; rintro e w5 ⟨A5, c5, rfl, HR5, HB5, HB6⟩))
      | ((refine zX (by rfl) (.tmp 46) (.tmp 78) (by rfl) Tryz.underlying22 mE _ _ HO.out HBi.out (by repeat (first | exact Below.refl _ _ | apply aC | apply pw_below_drewN | apply aD)) A5 c5 _ HR5.out HB5.out (by repeat (first | exact Below.refl _ _ | apply aC | apply pw_below_drewN | apply aD)) t0 t1 df _ _ (by repeat (first | exact heap_alloc_new _ _ | refine aJ ?_ _ | refine aK ?_ | refine aI ?_ _)) (by rfl) (by rfl) HLn.out ?_; intro g6 cap6 w6 HS6 HB7)))
     go_wp2
     go_roundw
     case rel => exact ⟨j + 1, by go_num, by have := HJJ.out; omega, by have := HJJ.out; omega, ⟨by rw [HYj.out, List.map_append, ← List.append_assoc, ← HLst.out]; exact HS6.out⟩, HB7⟩
     case measure => have := HJJ.out; simp [intOf]; omega
    ·have hje : j = la := by omega
     subst hje
     have hb3 : decide ((j : Int) < (j : Int)) = false := decide_eq_false (by omega)
     have HE : aA ((out ++ (y.2.take (j - fi)).map fun q => (⟨kr, q.1, q.2⟩ : S61)) = (rs.take (a + 1 - fr)).flatMap (mP key)) := ⟨by
      rw [HY.out, List.flatMap_append, ← HOut.out, List.take_of_length_le (by have := HM.out.1; omega)]
      simp [mP, HKR.out]⟩
     rw [HE.out] at HO
     go_wp2
     go_roundw
     case rel => exact ⟨a + 1, by go_num, by have := HM.out; omega, by have := HM.out; omega, HO, HBi⟩
     case measure => have := HM.out; simp [intOf]; omega
  ·have hae : a = te := by omega
   subst hae
   have hb1 : decide ((a : Int) < (a : Int)) = false := decide_eq_false (by omega)
   have HE : aA ((rs.take (a - fr)).flatMap (mP key) = rs.flatMap (mP key)) := ⟨by
    rw [List.take_of_length_le (by have := HF.out.1; omega)]⟩
   rw [HE.out] at HO
   go_wp2
   go_ret
   exact ⟨_, rfl, HO.out, HBr.out⟩
end Go.Proofs.YtpflmgbpjhbmnaaGreat.B
end
