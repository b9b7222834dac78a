/- SymUp6, StableUp, Sorted. -/
import Derived.Test.YtpflmgbpjhbmnaaGreatQBm11
import Derived.Test.YtpflmgbpjhbmnaaGreatQBm12
import Derived.Test.YtpflmgbpjhbmnaaGreatQBm13
import Derived.Test.YtpflmgbpjhbmnaaGreatQBm6
section
namespace Go.Proofs.YtpflmgbpjhbmnaaGreat.SU
open Go Go.Sort Go.RowKit Go.Lib Go.Shelf Go.Proofs Go.Proofs.YtpflmgbpjhbmnaaGreat.Stab
variable {α : Type} [Inhabited α]
set_option linter.unusedVariables false
theorem xB (k : Nat) (z50 : ∀ w, (Go.sizeOf 61).run Tryz.prog w = .ok k w) (enc : α → List Value) (cf : α → α → Int) (O : Ord cf) (g : Nat) (cb : Array Value) (blk off cap : Nat) (d0 : Array α) (w0 : World) (R : RK enc k w0 blk off d0)
  (eg : ∀ args w, (callFunc g args).run Tryz.prog w = .ok (.enter g args) w) (hcmp : yK Tryz.prog g cb enc k cf blk off d0.size w0) (hsz : d0.size < 4611686018427387904) :
  ∀ (N : Nat) (ai mi bi : Int) (W : World) (p x y q : List α), x.length + y.length ≤ N → (p.length : Int) = ai → ((p.length + x.length : Nat) : Int) = mi → ((p.length + x.length + y.length : Nat) : Int) = bi → 0 < x.length → 0 < y.length → Srt cf x → Srt cf y → d0.size = (p ++ (x ++ (y ++ q))).length → SB enc k w0 blk off (p ++ (x ++ (y ++ q))).toArray W →
   Calls Tryz.prog 134 #[.slice (some ⟨blk, off, none⟩) d0.size cap, .int .i64 ai, .int .i64 mi, .int .i64 bi, .func (.func g) #[] cb] W fun e w' => e = .returned (.tuple #[]) ∧ ∃ z, Mrg cf x y z ∧ SB enc k w0 blk off (p ++ (z ++ q)).toArray w' := by
 intro N
 induction N with
 | zero => intro ai mi bi W p x y q h1 _ _ _ h2; omega
 | succ N ih =>
  intro ai mi bi W p x y q hN h1 h2 h3 hx0 hy0 hx hy hs S
  subst h1 h2 h3
  by_cases hx1 : x.length = 1
  ·obtain ⟨xe, rfl⟩ : ∃ xe, x = [xe] := List.length_eq_one_iff.1 hx1
   exact DR k z50 enc cf O g cb blk off cap _ _ _ d0 w0 W R eg hcmp p xe y q rfl rfl rfl hy hs S hsz
  ·by_cases hy1 : y.length = 1
   ·obtain ⟨ye, rfl⟩ : ∃ ye, y = [ye] := List.length_eq_one_iff.1 hy1
    exact DS k z50 enc cf O g cb blk off cap _ _ _ d0 w0 W R eg hcmp p x ye q rfl (by omega) rfl rfl hx hs S hsz
   ·have hrec := fun (ai mi bi : Int) (W : World) (p' x' y' q' : List α) (h : x'.length + y'.length < p.length + x.length + y.length - p.length) => ih ai mi bi W p' x' y' q' (by omega)
    by_cases hm : (p.length + (p.length + x.length + y.length)) / 2 < p.length + x.length
    ·exact CP k z50 enc cf O g cb blk off cap _ _ _ d0 w0 W R eg hcmp p x y q rfl (by omega) (by omega) rfl rfl hx hy hs S hsz hm hrec
    ·exact CQ k z50 enc cf O g cb blk off cap _ _ _ d0 w0 W R eg hcmp p x y q rfl (by omega) (by omega) rfl rfl hx hy hs S hsz hm hrec
end Go.Proofs.YtpflmgbpjhbmnaaGreat.SU
end
section
namespace Go.Proofs.YtpflmgbpjhbmnaaGreat.SU
open Go Go.Sort Go.RowKit Go.Lib Go.Shelf Go.Proofs Go.Proofs.YtpflmgbpjhbmnaaGreat.Stab
variable {α : Type} [Inhabited α]
set_option linter.unusedVariables false
set_option linter.unusedSimpArgs false
set_option maxHeartbeats 2000000 in
set_option maxRecDepth 100000 in
theorem iJ (A : Option Addr) (n c : Nat) (fv : Value) (a : Nat) (ha : a ≤ 1152921504606846976) (w : World) :
  Calls Tryz.prog 133 #[.slice A n c, .int .i64 a, .int .i64 a, fv] w fun e w' => e = .returned (.tuple #[]) ∧ w' = w := by
 have b1 : decide ((a : Int) + 1 < a) = false := decide_eq_false (by omega)
 go_enter Tryz.func133, Tryz.ntmps133
 go_wp2
 refine wp_loop_rounds 1 ?_
 rw [rounds_succ]
 go_wp2
 go_end0
 exact ⟨rfl, rfl⟩
set_option maxHeartbeats 8000000 in
set_option maxRecDepth 1000000 in
theorem BP (k : Nat) (z50 : ∀ w, (Go.sizeOf 61).run Tryz.prog w = .ok k w) (enc : α → List Value) (cf : α → α → Int) (O : Ord cf) (g : Nat) (cb : Array Value) (blk off cap : Nat) (d0 : Array α) (w0 w : World) (R : RK enc k w0 blk off d0)
  (eg : ∀ args w, (callFunc g args).run Tryz.prog w = .ok (.enter g args) w) (hcmp : yK Tryz.prog g cb enc k cf blk off d0.size w0)
  (l : List α) (hs : d0.size = l.length) (S : SB enc k w0 blk off l.toArray w) (hsz : d0.size ≤ 1152921504606846976) :
  Calls Tryz.prog 119 #[.slice (some ⟨blk, off, none⟩) d0.size cap, .int .i64 d0.size, .func (.func g) #[] cb] w fun e w' => e = .returned (.tuple #[]) ∧ ∃ z, Srt cf z ∧ cL cf l z ∧ SB enc k w0 blk off z.toArray w' := by
 have HINS : Aside (∀ (ai bi : Int) (W : World) (p : List α) (x q : List α), (p.length : Int) = ai → ((p.length + x.length : Nat) : Int) = bi → d0.size = (p ++ (x ++ q)).length → SB enc k w0 blk off (p ++ (x ++ q)).toArray W →
   Calls Tryz.prog 133 #[.slice (some ⟨blk, off, none⟩) d0.size cap, .int .i64 ai, .int .i64 bi, .func (.func g) #[] cb] W fun e w' => e = .returned (.tuple #[]) ∧ ∃ z, Srt cf z ∧ cL cf x z ∧ SB enc k w0 blk off (p ++ (z ++ q)).toArray w') := by
  show ∀ _, _
  intro ai bi W p x q h1 h2 h3 h4
  subst h1 h2
  cases x with
  | nil =>
   refine (iJ (some ⟨blk, off, none⟩) d0.size cap (.func (.func g) #[] cb) p.length (by simp at h3; omega) W).mono ?_
   rintro e w' ⟨rfl, rfl⟩
   exact ⟨rfl, [], jM, cL.refl _, h4⟩
  | cons x0 x =>
   have := uE k z50 enc cf O g cb blk off cap p.length (p.length + (x0 :: x).length) d0 w0 W R eg hcmp p x0 x q rfl (by simp; omega) h3 h4 (by omega)
   exact this
 have HSYM : Aside (∀ (ai mi bi : Int) (W : World) (p x y q : List α), (p.length : Int) = ai → ((p.length + x.length : Nat) : Int) = mi → ((p.length + x.length + y.length : Nat) : Int) = bi → 0 < x.length → 0 < y.length → Srt cf x → Srt cf y → d0.size = (p ++ (x ++ (y ++ q))).length → SB enc k w0 blk off (p ++ (x ++ (y ++ q))).toArray W →
   Calls Tryz.prog 134 #[.slice (some ⟨blk, off, none⟩) d0.size cap, .int .i64 ai, .int .i64 mi, .int .i64 bi, .func (.func g) #[] cb] W fun e w' => e = .returned (.tuple #[]) ∧ ∃ z, Mrg cf x y z ∧ SB enc k w0 blk off (p ++ (z ++ q)).toArray w') := by
  show ∀ _, _
  intro ai mi bi W p x y q
  exact xB k z50 enc cf O g cb blk off cap d0 w0 R eg hcmp (by omega) (x.length + y.length) ai mi bi W p x y q (Nat.le_refl _)
 have S0 : Aside (SB enc k w0 blk off l.toArray w) := S
 have HL := Lib.hid hs
 clear S hcmp hs
 go_enter Tryz.func119, Tryz.ntmps119
 go_upto_block 0 with (fail)
 go_cut [7, 8] (fun v7 v8 wc => ∃ (a : Nat) (p r : List α), v7 = .int .i64 a ∧ v8 = .int .i64 (a + 20 : Nat) ∧ a ≤ d0.size ∧ d0.size < a + 20 ∧ Aside (p.length = a) ∧ Aside (nW cf 20 p) ∧ Aside (cL cf l (p ++ r)) ∧ Aside (SB enc k w0 blk off (p ++ r).toArray wc))
 case first =>
  go_wp2_with fail
  go_loopw [7, 8] (fun v7 v8 wr => ∃ (a : Nat) (p r : List α), v7 = .int .i64 a ∧ v8 = .int .i64 (a + 20 : Nat) ∧ a ≤ d0.size ∧ Aside (p.length = a) ∧ Aside (nW cf 20 p) ∧ Aside (cL cf l (p ++ r)) ∧ Aside (SB enc k w0 blk off (p ++ r).toArray wr)) (fun v7 v8 wr => d0.size - (intOf v7).toNat)
  case atStart => exact ⟨0, [], l, rfl, by first | rfl | go_num, by omega, rfl, nW.nil, cL.refl _, S0⟩
  case round =>
   obtain ⟨a, p, r, rfl, rfl, ha, hp, hf, hk, S1⟩ := hrel
   clear S0
   by_cases hb : a + 20 ≤ d0.size
   ·have b1 : decide ((a : Int) + 20 ≤ d0.size) = true := decide_eq_true (by omega)
    have hp' : p.length = a := hp
    have hk' : cL cf l (p ++ r) := hk
    have hrl : r.length = d0.size - a := by have := hk'.1; have := HL.out; rw [List.length_append] at *; omega
    obtain ⟨x, q, rfl, hx⟩ : ∃ x q, r = x ++ q ∧ x.length = 20 := ⟨r.take 20, r.drop 20, (List.take_append_drop _ _).symm, by simp; omega⟩
    have HK := HINS a (a + 20) wr p x q (by omega) (by omega) (by have h1 := HL.out; have h2 := hk'.1; rw [h1, h2]) S1
    have HK' : Aside _ := HK
    have HX := Lib.hid hx
    have HPL := Lib.hid hp'
    clear HK S1 hrl hx hp'
    go_wp2_with (go_at_call 133; refine Calls.mono HK' ?_; rintro e w' ⟨rfl, z, hz1, hz2, hS⟩; have S2 : Aside _ := hS; have Z1 : Aside _ := hz1; have Z2 : Aside _ := hz2; clear hS hz1 hz2)
    have hzl : z.length = 20 := by have h : cL cf x z := Z2; rw [← h.1]; exact HX.out
    have hf2 : nW cf 20 (p ++ z) := nW.snoc p z hf hzl Z1
    have hk2 : cL cf l ((p ++ z) ++ q) := cL.trans hk' (by have h : cL cf x z := Z2; have := cL.app (cL.app (cL.refl (c := cf) p) h) (cL.refl (c := cf) q); simpa using this)
    have hl2 : (p ++ z).length = a + 20 := by rw [List.length_append, hzl, HPL.out]
    go_roundw
    case rel => exact ⟨a + 20, p ++ z, q, by go_num, by go_num, hb, hl2, hf2, hk2, by show SB _ _ _ _ _ _ _; have := S2; unfold Aside at this; simpa using this⟩
    case measure => simp [intOf]; omega
   ·have b1 : decide ((a : Int) + 20 ≤ d0.size) = false := decide_eq_false (by omega)
    go_wp2
    go_meet
    case rel => exact ⟨a, p, r, rfl, by go_num, ha, by omega, hp, hf, hk, S1⟩
 case rest =>
  clear S0
  obtain ⟨a, p, r, rfl, rfl, ha, hb, hp, hf, hk, S1⟩ := hcut
  have hp' : p.length = a := hp
  have hk' : cL cf l (p ++ r) := hk
  have hrl : r.length = d0.size - a := by have := hk'.1; have := HL.out; rw [List.length_append] at *; omega
  have HK := HINS a d0.size wc p r [] (by omega) (by omega) (by have h1 := HL.out; have h2 := hk'.1; rw [h1, h2]; simp) (by have := S1; unfold Aside at this; simpa using this)
  have HK' : Aside _ := HK
  have HRL := Lib.hid hrl
  clear HK S1 hrl hp'
  go_wp2_with (go_at_call 133; refine Calls.mono HK' ?_; rintro e w' ⟨rfl, z, hz1, hz2, hS⟩; have S2 : Aside _ := hS; have Z1 : Aside _ := hz1; have Z2 : Aside _ := hz2; clear hS hz1 hz2)
  clear HK'
  have hzl : z.length ≤ 20 := by have h : cL cf r z := Z2; rw [← h.1, HRL.out]; omega
  have hbk : Aside (Blk cf 20 (p ++ z)) := nW.blk hf z (.last z hzl Z1)
  have hk2 : Aside (cL cf l (p ++ z)) := cL.trans hk' (cL.app (cL.refl p) Z2)
  have S3 : Aside (SB enc k w0 blk off (p ++ z).toArray w') := by show SB _ _ _ _ _ _ _; have := S2; unfold Aside at this; simpa using this
  clear S2 Z1 Z2 hf hk hk' hzl HRL hp HINS
  generalize p ++ z = L at *
  go_loopw [6] (fun v6 wr => ∃ (bs : Nat) (L : List α), v6 = .int .i64 bs ∧ 20 ≤ bs ∧ bs ≤ 2 * d0.size + 20 ∧ Aside (Blk cf bs L) ∧ Aside (cL cf l L) ∧ Aside (SB enc k w0 blk off L.toArray wr)) (fun v6 wr => d0.size - (intOf v6).toNat)
  case atStart => exact ⟨20, L, by first | rfl | go_num, by omega, by omega, hbk, hk2, S3⟩
  case round =>
   clear hbk hk2 S3
   obtain ⟨bs, L, rfl, hbs, hbs2, hB, hK, S1⟩ := hrel
   by_cases hlt : bs < d0.size
   ·have b1 : decide ((bs : Int) < d0.size) = true := decide_eq_true (by omega)
    go_upto_block 4 with (fail)
    go_cut [7, 8] (fun v7 v8 wc => ∃ (a : Nat) (p r : List α), v7 = .int .i64 a ∧ a ≤ d0.size ∧ d0.size < a + 2 * bs ∧ Aside (p.length = a) ∧ Aside (nW cf (2 * bs) p) ∧ Aside (Blk cf bs r) ∧ Aside (cL cf l (p ++ r)) ∧ Aside (SB enc k w0 blk off (p ++ r).toArray wc))
    case first =>
     go_wp2_with fail
     go_loopw [7, 8] (fun v7 v8 wr => ∃ (a : Nat) (p r : List α), v7 = .int .i64 a ∧ v8 = .int .i64 (a + 2 * bs : Nat) ∧ a ≤ d0.size ∧ Aside (p.length = a) ∧ Aside (nW cf (2 * bs) p) ∧ Aside (Blk cf bs r) ∧ Aside (cL cf l (p ++ r)) ∧ Aside (SB enc k w0 blk off (p ++ r).toArray wr)) (fun v7 v8 wr => d0.size - (intOf v7).toNat)
     case atStart => exact ⟨0, [], L, rfl, by first | rfl | go_num, by omega, rfl, nW.nil, hB, hK, S1⟩
     case round =>
      clear S1 hB hK
      obtain ⟨a, p, r, rfl, rfl, ha, hp, hf, hB, hK, S1⟩ := hrel
      by_cases hb : a + 2 * bs ≤ d0.size
      ·have b2 : decide ((a : Int) + 2 * bs ≤ d0.size) = true := decide_eq_true (by omega)
       have hp' : p.length = a := hp
       have hk' : cL cf l (p ++ r) := hK
       have hrl : r.length = d0.size - a := by have := hk'.1; have := HL.out; rw [List.length_append] at *; omega
       obtain ⟨x, r1, rfl, hx, hxs, hB1⟩ := Blk.split hB (by omega)
       rw [List.length_append] at hrl
       obtain ⟨y, q, rfl, hy, hys, hB2⟩ := Blk.split hB1 (by omega)
       have HK := HSYM a (a + bs) (a + 2 * bs) wr p x y q (by omega) (by omega) (by omega) (by omega) (by omega) hxs hys (by have h1 := HL.out; have h2 := hk'.1; rw [h1, h2]) S1
       have HK' : Aside _ := HK
       have HX := Lib.hid (And.intro hx (And.intro hy hp'))
       clear HK S1 hrl hx hy hp' hB hB1 hxs hys
       go_wp2_with (go_at_call 134; refine Calls.mono HK' ?_; rintro e w' ⟨rfl, z, hz1, hS⟩; have S2 : Aside _ := hS; have Z1 : Aside _ := hz1; clear hS hz1)
       have hz : Mrg cf x y z := Z1
       have hzl : z.length = 2 * bs := by have h := hz.2.1; rw [List.length_append] at h; have := HX.out; omega
       have hf2 : nW cf (2 * bs) (p ++ z) := nW.snoc p z hf hzl hz.1
       have hk2 : cL cf l ((p ++ z) ++ q) := cL.trans hk' (by have := cL.app (cL.app (cL.refl (c := cf) p) hz.2) (cL.refl (c := cf) q); simpa using this)
       have hl2 : (p ++ z).length = a + 2 * bs := by rw [List.length_append, hzl]; have := HX.out; omega
       go_roundw
       case rel => exact ⟨a + 2 * bs, p ++ z, q, by go_num, by go_num, hb, hl2, hf2, hB2, hk2, by show SB _ _ _ _ _ _ _; have := S2; unfold Aside at this; simpa using this⟩
       case measure => simp [intOf]; omega
      ·have b2 : decide ((a : Int) + 2 * bs ≤ d0.size) = false := decide_eq_false (by omega)
       go_wp2
       go_meet
       case rel => exact ⟨a, p, r, rfl, ha, by omega, hp, hf, hB, hK, S1⟩
    case rest =>
     clear S1 hB hK
     obtain ⟨a, p, r, rfl, ha, hb, hp, hf, hB, hK, S1⟩ := hcut
     have hp' : p.length = a := hp
     have hk' : cL cf l (p ++ r) := hK
     have hrl : r.length = d0.size - a := by have := hk'.1; have := HL.out; rw [List.length_append] at *; omega
     by_cases hm : a + bs < d0.size
     ·have b2 : decide ((a : Int) + bs < d0.size) = true := decide_eq_true (by omega)
      obtain ⟨x, y, rfl, hx, hxs, hB1⟩ := Blk.split hB (by omega)
      rw [List.length_append] at hrl
      have hys := Blk.whole hB1 (by omega)
      have HK := HSYM a (a + bs) d0.size wc p x y [] (by omega) (by omega) (by omega) (by omega) (by omega) hxs hys (by have h1 := HL.out; have h2 := hk'.1; rw [h1, h2]; simp) (by have := S1; unfold Aside at this; simpa using this)
      have HK' : Aside _ := HK
      have HX := Lib.hid (And.intro hx (And.intro hrl hp'))
      clear HK S1 hrl hx hp' hB hB1 hxs hys
      go_wp2_with (go_at_call 134; refine Calls.mono HK' ?_; rintro e w' ⟨rfl, z, hz1, hS⟩; have S2 : Aside _ := hS; have Z1 : Aside _ := hz1; clear hS hz1)
      have hz : Mrg cf x y z := Z1
      have hzl : z.length ≤ 2 * bs := by have h := hz.2.1; rw [List.length_append] at h; have := HX.out; omega
      have hB2 : Blk cf (2 * bs) (p ++ z) := nW.blk hf z (.last z hzl hz.1)
      have hk2 : cL cf l (p ++ z) := cL.trans hk' (cL.app (cL.refl p) hz.2)
      go_roundw
      case rel => exact ⟨2 * bs, p ++ z, by go_num, by omega, by omega, hB2, hk2, by show SB _ _ _ _ _ _ _; have := S2; unfold Aside at this; simpa using this⟩
      case measure => simp [intOf]; omega
     ·have b2 : decide ((a : Int) + bs < d0.size) = false := decide_eq_false (by omega)
      have hB2 : Aside (Blk cf (2 * bs) (p ++ r)) := nW.blk hf r (.last r (by omega) (Blk.whole hB (by omega)))
      clear hrl hp' hB
      go_wp2
      go_roundw
      case rel => exact ⟨2 * bs, p ++ r, by go_num, by omega, by omega, hB2, hK, S1⟩
      case measure => simp [intOf]; omega
   ·have b1 : decide ((bs : Int) < d0.size) = false := decide_eq_false (by omega)
    have hss : Aside (Srt cf L) := by
     have h1 : cL cf l L := hK
     exact Blk.whole hB (by rw [← h1.1, ← HL.out]; omega)
    go_wp2
    go_end0
    exact ⟨rfl, L, hss, hK, S1⟩
set_option maxHeartbeats 2000000 in
set_option maxRecDepth 100000 in
theorem sortStable (k : Nat) (z50 : ∀ w, (Go.sizeOf 61).run Tryz.prog w = .ok k w) (enc : α → List Value) (cf : α → α → Int) (O : Ord cf) (g : Nat) (cb : Array Value) (blk off cap : Nat) (w : World) (l : List α) (R : RK enc k w blk off l.toArray)
  (eg : ∀ args w, (callFunc g args).run Tryz.prog w = .ok (.enter g args) w) (hcmp : yK Tryz.prog g cb enc k cf blk off l.length w) (hsz : l.length ≤ 1152921504606846976) :
  Calls Tryz.prog 105 #[.slice (some ⟨blk, off, none⟩) l.length cap, .func (.func g) #[] cb] w fun e w' => e = .returned (.tuple #[]) ∧ ∃ z, Srt cf z ∧ cL cf l z ∧ SB enc k w blk off z.toArray w' := by
 have HK : Aside _ := BP k z50 enc cf O g cb blk off cap l.toArray w w R eg (by simpa using hcmp) l (by simp) (SB.start R) (by simpa using hsz)
 rw [show l.toArray.size = l.length by simp] at HK
 clear hcmp
 go_enter Tryz.func105, Tryz.ntmps105
 go_wp2_with (go_at_call 119; refine Calls.mono HK ?_; rintro e w' ⟨rfl, hS⟩)
 go_end0
 exact ⟨rfl, hS⟩
set_option maxHeartbeats 2000000 in
set_option maxRecDepth 100000 in
theorem sortStable_nil (A : Option Addr) (c : Nat) (fv : Value) (w : World) :
  Calls Tryz.prog 105 #[.slice A 0 c, fv] w fun e w' => e = .returned (.tuple #[]) ∧ w' = w := by
 have HI := fun w => iJ A 0 c fv 0 (by omega) w
 have HK : Aside (Calls Tryz.prog 119 #[.slice A 0 c, .int .i64 0, fv] w fun e w' => e = .returned (.tuple #[]) ∧ w' = w) := by
  show Calls _ _ _ _ _
  have HI' : Aside _ := HI
  clear HI
  go_enter Tryz.func119, Tryz.ntmps119
  go_wp2
  refine wp_loop_rounds 1 ?_
  rw [rounds_succ]
  go_wp2_with (go_at_call 133; refine Calls.mono (HI' _) ?_; rintro e w' ⟨rfl, rfl⟩)
  refine wp_loop_rounds 1 ?_
  rw [rounds_succ]
  go_wp2
  go_end0
  exact ⟨rfl, rfl⟩
 clear HI
 go_enter Tryz.func105, Tryz.ntmps105
 go_wp2_with (go_at_call 119; refine Calls.mono HK ?_; rintro e w' ⟨rfl, rfl⟩)
 go_end0
 exact ⟨rfl, rfl⟩
end Go.Proofs.YtpflmgbpjhbmnaaGreat.SU
end
section
namespace Go.Proofs.YtpflmgbpjhbmnaaGreat.B
open Go Go.Sort Go.RowKit Go.Lib Go.Proofs Go.Proofs.YtpflmgbpjhbmnaaGreatW.PrintWords Go.Proofs.YtpflmgbpjhbmnaaGreatW.PrintLast Go.Proofs.YtpflmgbpjhbmnaaGreatW.PrintMore Go.Proofs.YtpflmgbpjhbmnaaGreat.OwnK Go.Proofs.YtpflmgbpjhbmnaaGreat.Stab
set_option linter.unusedVariables false
set_option linter.unusedSimpArgs false
set_option maxRecDepth 100000
theorem nF : Ord cY := ⟨eV, kZ⟩
theorem yL (w : World) : Ord (fun x y : UpR w => cY x.up y.up) := ⟨fun x y => eV x.up y.up, fun x y z => kZ x.up y.up z.up⟩
def eY (l : List S61) : List S61 := jA cY l
theorem gB (l : List S61) : (eY l).length = l.length := uB nF l
set_option maxHeartbeats 1000000 in
theorem zP (base : Nat) (u : Value) (w0 wb w : World) (zs : List (UpR w0)) (ok : Nat → Prop) (hR : Kd.R (kUR w0) 61 w base ok u zs) (hBb : Below w0.heap.size w0 wb) (hB : Below base wb w) (hb0 : w0.heap.size ≤ base) (hb : base ≤ w.heap.size) (hl : zs.length ≤ 1152921504606846976) :
  Calls Tryz.prog 105 #[u, .func (.func 80) #[] #[]] w fun e w' => e = .returned (.tuple #[]) ∧ ∃ z, z.map UpR.up = eY (zs.map UpR.up) ∧ Kd.R (kUR w0) 61 w' base ok u z ∧ Below base wb w' := by
 have hB0 : Below w0.heap.size w0 w := hBb.trans (hB.mono hb0)
 obtain ⟨hok, inner, hown, hr⟩ := hR
 have hown2 : w.ownsRow base 61 4 u zs.length inner := hown
 rcases hown2.2 with ⟨rfl, h0⟩ | ⟨g, cap, cur, rfl, hg, hcells, _⟩
 ·obtain rfl : zs = [] := List.eq_nil_of_length_eq_zero h0
  refine (Go.Proofs.YtpflmgbpjhbmnaaGreat.SU.sortStable_nil none 0 (.func (.func 80) #[] #[]) w).mono ?_
  rintro e w' ⟨rfl, rfl⟩
  exact ⟨rfl, [], rfl, ⟨hok, inner, hown, hr⟩, hB⟩
 ·have hlt : g < w.heap.size := (Array.getElem?_eq_some_iff.1 hcells).1
  have hin : inner = (flatK nV 4 zs.toArray).toList := tT (enc := nV) (nD (w := w0)) (by decide) hr (fun x cs h => h)
  have hH : HoldsK nV 4 w g 0 zs.toArray := by
   unfold HoldsK
   have := oF hown2
   rw [hin] at this
   exact this
  have hR : RK nV 4 w g 0 zs.toArray := ⟨nD, qY, hH, hlt⟩
  have hcon := Go.Proofs.YtpflmgbpjhbmnaaGreat.SU.sortStable 4 Tryz.sizeOf61 nV (fun x y : UpR w0 => cY x.up y.up) (yL w0) 80 #[] g 0 cap w zs hR
   (enters_of Tryz.func80 (by kernel_rfl) rfl)
   (fun W dk hd S x y => by
    have h1 := kY (off := 0) (d := flatK nV 4 dk) hB0 (Nat.le_trans hb0 hg)
    have h2 : Below w0.heap.size w0 W := h1.trans (S.b.mono hB0.size)
    exact jZ x y W h2)
   hl
  refine Calls.mono hcon ?_
  rintro e w' ⟨rfl, z, hs, hk, S⟩
  have hzl : z.length = zs.length := hk.1.symm
  have hz : z = jA (fun x y : UpR w0 => cY x.up y.up) zs := kA (yL w0) hs hk
  have hzm : z.map UpR.up = eY (zs.map UpR.up) := by rw [hz]; exact uC (c := cY) UpR.up zs
  have hb1 := S.b
  unfold putRowK at hb1
  generalize hF : flatK nV 4 z.toArray = F at hb1
  have hFr : Reps (fun x cs => cs = nV x) 4 z F.toList := hF ▸ oG nD z
  have hp := own_put (ys := F.toList) hown2 (by rw [hFr.1, hzl])
  rw [show F.toList.toArray = F by simp] at hp
  have hsz2 : (putRow id w g 0 F).heap.size = w.heap.size := by simp [putRow, mapBlock]
  have hb2 : Below (putRow id w g 0 F).heap.size (putRow id w g 0 F) w' := hb1.mono (by rw [hsz2]; exact Nat.le_refl _)
  have hB2 := kY (off := 0) (d := F) hB hg
  refine ⟨rfl, z, hzm, ⟨hok, F.toList, ?_, ?_⟩, hB2.trans (hb1.mono hb)⟩
  ·rw [hzl]; exact gT hp hb2
  ·exact hFr.imp_ (fun x cs h => h)
set_option maxHeartbeats 2000000 in
theorem oN (A0 : Option Addr) (c0 : Nat) (w0 w : World) (zs : List (UpR w0)) (hB : Below w0.heap.size w0 w) (hC : Kd.C (kUR w0) w A0 zs.length zs) (hc0 : zs.length ≤ c0) (hl : zs.length * 48 ≤ 140737488355328) :
  Calls Tryz.prog 79 #[.slice A0 zs.length c0, .func (.func 80) #[] #[]] w fun e w' => ∃ (v : Value) (z : List (UpR w0)), e = .returned v ∧ z.map UpR.up = eY (zs.map UpR.up) ∧ Kd.R (kUR w0) 61 w' w.heap.size (fun _ => True) v z ∧ Below w.heap.size w w' := by
 have HCl : aA (Calls Tryz.prog 104 #[.slice A0 zs.length c0] w fun e w' => ∃ (A : Option Addr) (c : Nat), e = .returned (.slice A zs.length c) ∧ aA (Kd.R (kUR w0) 61 w' w.heap.size (fun _ => True) (.slice A zs.length c) zs) ∧ aA (Below w.heap.size w w')) :=
  ⟨(wW A0 c0 w0 w zs hC hc0 (by omega)).mono fun e w' ⟨v, h1, h2, h3⟩ => by
   obtain ⟨A, c, rfl, hc, _⟩ := Kd.R_reads h2
   exact ⟨A, c, h1, ⟨h2⟩, ⟨h3⟩⟩⟩
 have HS : aA (∀ (A : Option Addr) (c : Nat) (W : World), aA (Kd.R (kUR w0) 61 W w.heap.size (fun _ => True) (.slice A zs.length c) zs) → aA (Below w.heap.size w W) → Calls Tryz.prog 105 #[.slice A zs.length c, .func (.func 80) #[] #[]] W fun e w' => e = .returned (.tuple #[]) ∧ aA (∃ z, z.map UpR.up = eY (zs.map UpR.up) ∧ Kd.R (kUR w0) 61 w' w.heap.size (fun _ => True) (.slice A zs.length c) z) ∧ Below w.heap.size w w') :=
  ⟨fun A c W h1 h2 => (zP w.heap.size _ w0 w W zs _ h1.out hB h2.out hB.size h2.out.size (by omega)).mono fun e w' ⟨g1, z, g2, g3, g4⟩ => ⟨g1, ⟨z, g2, g3⟩, g4⟩⟩
 clear hC
 go_enter Tryz.func79, Tryz.ntmps79
 go_wp2_with (first
  | (go_at_call 104; refine HCl.out.mono ?_; rintro e w1 ⟨A1, c1, rfl, HO1, HB1⟩)
  | (go_at_call 105; refine (HS.out _ _ _ HO1 HB1).mono ?_; rintro e w2 ⟨rfl, HZ, hB2⟩))
 go_ret
 obtain ⟨z, g1, g2⟩ := HZ.out
 exact ⟨_, z, rfl, g1, g2, hB2⟩
end Go.Proofs.YtpflmgbpjhbmnaaGreat.B
end
