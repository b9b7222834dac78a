/- seek.Find: its closure, its two loops. No condition. -/
import Derived.Test.YtpflmgbpjhbmnaaOrd
import Derived.Deep.RegionWith
import Derived.StillTailTactics
namespace Go.Proofs.Ytpflmgbpjhbmnaa.B
open Go.RowKit Go.Proofs.YtpflmgbpjhbmnaaW.PrintWords Go.Proofs.YtpflmgbpjhbmnaaW.PrintLast Go.Proofs.YtpflmgbpjhbmnaaW.PrintMore
attribute [local go_sem] max2_int min2_int max_two min_two max_three min_three max_four min_four
set_option linter.unusedVariables false
set_option linter.unusedSimpArgs false

/-- A row out of a list of rows: its slice value. -/
theorem at_R {w : World} {A : Option Addr} {n : Nat} {xs : List (List S56)} (h : Kd.C (Kd.slice 56 k56) w A n xs) (k : Nat) (hk : k < n) : ∃ ad A0 c0, A = some ad ∧ w.cell? (ad.add k) = some (.slice A0 (xs.getD k []).length c0) ∧ (xs.getD k []).length ≤ c0 ∧ Kd.C k56 w A0 (xs.getD k []).length (xs.getD k []) := by
  obtain ⟨ad, c, e, _, hK, hc0⟩ := Kd.C_get h ([] : List S56) (k : Int) (by omega) (by omega)
  have hc : ∀ j u, c[j]? = some u → w.cell? (ad.add (k * 1 + j)) = some u := hc0
  obtain ⟨A0, c0, rfl, l0, g0⟩ := hK
  exact ⟨ad, A0, c0, e, by have hq := hc 0 _ rfl; rwa [Nat.mul_one, Nat.add_zero] at hq, l0, g0⟩

/-- A block of one cell. -/
def Box (w : World) (b : Nat) (v : Value) (t : Nat) : Prop := w.heap[b]? = some (.cells #[v] t (0, 0))
theorem Box.cell {w : World} {b : Nat} {v : Value} {t : Nat} (h : Box w b v t) : w.cell? ⟨b, 0, none⟩ = some v := by
  unfold Box at h; simp [World.cell?, h]
theorem Box.frozen {w : World} {b : Nat} {v : Value} {t : Nat} (h : Box w b v t) : w.frozen? ⟨b, 0, none⟩ = false := by
  unfold Box at h; simp [World.frozen?, h]
theorem Box.lt {w : World} {b : Nat} {v : Value} {t : Nat} (h : Box w b v t) : b < w.heap.size := by
  unfold Box at h; exact (Array.getElem?_eq_some_iff.1 h).1
theorem Box.below {w w' : World} {b : Nat} {v : Value} {t : Nat} (h : Box w b v t) (hb : Below w.heap.size w w') : Box w' b v t := (hb.block b h.lt).trans h
theorem Box.new (w : World) (v : Value) (t : Nat) : Box (w.alloc (.cells #[v] t)) w.heap.size v t := by
  show (w.heap.push _)[w.heap.size]? = _
  rw [Array.getElem?_push, if_pos rfl]
theorem Box.alloc {w : World} {b : Nat} {v : Value} {t : Nat} (h : Box w b v t) (o : Obj) : Box (w.alloc o) b v t := h.below ((Below.refl _ _).alloc (Nat.le_refl _) o)
theorem Box.set {w : World} {b : Nat} {v : Value} {t : Nat} (h : Box w b v t) (u : Value) : Box (w.setCell ⟨b, 0, none⟩ u) b u t := by
  unfold Box at *; simp [World.setCell, Array.getElem?_modify, h]
theorem Box.far {w : World} {b c : Nat} {v : Value} {t : Nat} (h : Box w b v t) (hn : c ≠ b) (u : Value) : Box (w.setCell ⟨c, 0, none⟩ u) b v t := by
  unfold Box at *; simp [World.setCell, Array.getElem?_modify, h, hn]

set_option maxHeartbeats 2000000 in
set_option maxRecDepth 100000 in
theorem findAhead (bp bl br : Nat) (n : Int) (A0 : Option Addr) (c0 : Nat) (l0 : List (List S56)) (A1 : Option Addr) (c1 : Nat) (l1 : List S56) (i : Int) (w : World)
    (hp : Box w bp (.int .i64 n) 3) (hl : Box w bl (.slice A0 l0.length c0) 22) (hr : Box w br (.slice A1 l1.length c1) 24) (npl : bp ≠ bl) (npr : bp ≠ br) (hi0 : 0 ≤ i) (hi : i < l0.length)
    (hr0 : Kd.C (Kd.slice 56 k56) (w.setCell ⟨bp, 0, none⟩ (.int .i64 (wrap64 (n + 1)))) A0 l0.length l0) (hc0 : l0.length ≤ c0) (hr1 : Kd.C k56 (w.setCell ⟨bp, 0, none⟩ (.int .i64 (wrap64 (n + 1)))) A1 l1.length l1) (hc1 : l1.length ≤ c1) :
    Calls Try.prog 60 #[.int .i64 i, .pointer (some ⟨bp, 0, none⟩), .pointer (some ⟨bl, 0, none⟩), .pointer (some ⟨br, 0, none⟩)] w fun e w' => e = .returned (.bool (decide (ordR (l0.getD i.toNat []) l1 < 0))) ∧ Below w.heap.size (w.setCell ⟨bp, 0, none⟩ (.int .i64 (wrap64 (n + 1)))) w' := by
  obtain ⟨k, rfl⟩ := Int.eq_ofNat_of_zero_le hi0
  have hk : k < l0.length := by omega
  obtain ⟨ad, A2, c2, e, g0, g1, g2⟩ := at_R hr0 k hk
  cases e
  have hp0 := hp.cell
  have hp1 := hp.frozen
  have hl0 := (hl.far npl (.int .i64 (wrap64 (n + 1)))).cell
  have hr2 := (hr.far npr (.int .i64 (wrap64 (n + 1)))).cell
  have HC : Aside0 (∀ W, Below (w.setCell ⟨bp, 0, none⟩ (.int .i64 (wrap64 (n + 1)))).heap.size (w.setCell ⟨bp, 0, none⟩ (.int .i64 (wrap64 (n + 1)))) W → Calls Try.prog 61 #[.slice A2 (l0.getD k []).length c2, .slice A1 l1.length c1] W fun e w' => e = .returned (.int .i64 (ordR (l0.getD k []) l1)) ∧ Below w.heap.size (w.setCell ⟨bp, 0, none⟩ (.int .i64 (wrap64 (n + 1)))) w') := ⟨fun W hW =>
    (row_Order A2 c2 (l0.getD k []) A1 c1 l1 W (Kd.C_below g2 hW) g1 (Kd.C_below hr1 hW) hc1).mono fun e w' ⟨he, hb⟩ => ⟨he, (hW.mono (by simp)).trans (hb.mono (by have := hW.size; simp at this; omega))⟩⟩
  clear hr0 hr1 hp hl hr g2
  rw [Int.toNat_natCast]
  generalize l0.getD k [] = row at g0 g1 HC ⊢
  go_enter Try.func60, Try.ntmps60
  go_wp2_with fail
  go_region_with ((go_at_call 61; refine (HC.out _ ?s1).mono ?_; (case s1 => exact (Below.refl _ _).drew); rintro e w' ⟨rfl, hb⟩))
  all_goals go_wp2
  all_goals go_ret
  all_goals exact ⟨rfl, hb⟩

/-- Is the row at a place ahead of r? -/
def ahB (l : List (List S56)) (r : List S56) (i : Nat) : Bool := decide (ordR (l.getD i []) r < 0)
def gal (l : List (List S56)) (r : List S56) : Nat → Nat → Nat → Nat → Nat × Nat × Nat
  | 0, low, step, p => (low, step, p)
  | k + 1, low, step, p => if low + step - 1 < l.length then (if ahB l r (low + step - 1) = true then gal l r k (low + step) (2 * step) (p + 1) else (low, step, p + 1)) else (low, step, p)
def bin (l : List (List S56)) (r : List S56) : Nat → Nat → Nat → Nat → Nat × Nat
  | 0, low, _, p => (low, p)
  | k + 1, low, high, p => if low < high then (if ahB l r (low + (high - low) / 2) = true then bin l r k (low + (high - low) / 2 + 1) high (p + 1) else bin l r k low (low + (high - low) / 2) (p + 1)) else (low, p)
def start (n : Nat) (from_ : Int) : Nat := min from_.toNat n
def findP (l : List (List S56)) (from_ : Int) (r : List S56) : Nat × Nat :=
  bin l r (l.length + 1) (gal l r (l.length + 1) (start l.length from_) 1 0).1 (min ((gal l r (l.length + 1) (start l.length from_) 1 0).1 + (gal l r (l.length + 1) (start l.length from_) 1 0).2.1 - 1) l.length) (gal l r (l.length + 1) (start l.length from_) 1 0).2.2

/-- What seek.Find has in memory of its own. -/
structure FS (w0 w : World) (bp bl br : Nat) (n : Nat) (v0 v1 : Value) : Prop where
  p : Box w bp (.int .i64 n) 3
  l : Box w bl v0 22
  r : Box w br v1 24
  B : Below w0.heap.size w0 w
  ge : w0.heap.size ≤ bp
  pl : bp ≠ bl
  pr : bp ≠ br
theorem findAhead' (w0 w : World) (bp bl br : Nat) (n : Nat) (A0 : Option Addr) (c0 : Nat) (l0 : List (List S56)) (A1 : Option Addr) (c1 : Nat) (l1 : List S56) (k : Nat) (i : Int) (hik : i = k)
    (h : FS w0 w bp bl br n (.slice A0 l0.length c0) (.slice A1 l1.length c1)) (hn : n ≤ 1099511627776) (hi : k < l0.length)
    (hr0 : Kd.C (Kd.slice 56 k56) w0 A0 l0.length l0) (hc0 : l0.length ≤ c0) (hr1 : Kd.C k56 w0 A1 l1.length l1) (hc1 : l1.length ≤ c1) :
    Calls Try.prog 60 #[.int .i64 i, .pointer (some ⟨bp, 0, none⟩), .pointer (some ⟨bl, 0, none⟩), .pointer (some ⟨br, 0, none⟩)] w fun e w' => e = .returned (.bool (ahB l0 l1 k)) ∧ FS w0 w' bp bl br (n + 1) (.slice A0 l0.length c0) (.slice A1 l1.length c1) := by
  subst hik
  have hw : wrap64 ((n : Int) + 1) = ((n + 1 : Nat) : Int) := by unfold wrap64; omega
  have hB1 : Below w0.heap.size w0 (w.setCell ⟨bp, 0, none⟩ (.int .i64 (wrap64 ((n : Int) + 1)))) := h.B.setCell h.ge _
  refine (findAhead bp bl br n A0 c0 l0 A1 c1 l1 k w h.p h.l h.r h.pl h.pr (by omega) (by omega) (Kd.C_below hr0 hB1) hc0 (Kd.C_below hr1 hB1) hc1).mono ?_
  rintro e w' ⟨rfl, hb⟩
  have hb' : Below (w.setCell ⟨bp, 0, none⟩ (.int .i64 (wrap64 ((n : Int) + 1)))).heap.size (w.setCell ⟨bp, 0, none⟩ (.int .i64 (wrap64 ((n : Int) + 1)))) w' := hb.mono (by simp)
  refine ⟨rfl, ⟨?_, (h.l.far h.pl _).below hb', (h.r.far h.pr _).below hb', hB1.trans (hb.mono h.B.size), h.ge, h.pl, h.pr⟩⟩
  have := (h.p.set (.int .i64 (wrap64 ((n : Int) + 1)))).below hb'
  rw [hw] at this
  exact this

set_option maxHeartbeats 4000000 in
set_option maxRecDepth 100000 in
theorem seek_Find (A0 : Option Addr) (c0 : Nat) (l0 : List (List S56)) (a1 : Int) (A1 : Option Addr) (c1 : Nat) (l1 : List S56) (w : World) (hm : l0.length ≤ 549755813888)
    (hr0 : Kd.C (Kd.slice 56 k56) w A0 l0.length l0) (hc0 : l0.length ≤ c0) (hr1 : Kd.C k56 w A1 l1.length l1) (hc1 : l1.length ≤ c1) :
    Calls Try.prog 12 #[.slice A0 l0.length c0, .int .i64 a1, .slice A1 l1.length c1] w fun e w' => e = .returned (.tuple #[.int .i64 (findP l0 a1 l1).1, .int .i64 (findP l0 a1 l1).2]) ∧ Below w.heap.size w w' := by
  have HF := Aside0.mk (fun W bp bl br n k i hik h hn hi => findAhead' w W bp bl br n A0 c0 l0 A1 c1 l1 k i hik h hn hi hr0 hc0 hr1 hc1)
  clear hr0 hr1 hc0 hc1
  go_enter Try.func12, Try.ntmps12
  go_upto_region 1 with (fail)
  go_cut [1] (fun v1 wc => ∃ s : Nat, v1 = .int .i64 s ∧ s ≤ l0.length ∧ Aside0 (start l0.length a1 = s) ∧ Aside0 (FS w wc (w.heap.size + 1 + 1) w.heap.size (w.heap.size + 1) 0 (.slice A0 l0.length c0) (.slice A1 l1.length c1)))
  case first =>
    have HW : Aside0 (FS w (((w.alloc (.cells #[.slice A0 l0.length c0] 22)).alloc (.cells #[.slice A1 l1.length c1] 24)).alloc (.cells #[.int .i64 0] 3)) (w.heap.size + 1 + 1) w.heap.size (w.heap.size + 1) 0 (.slice A0 l0.length c0) (.slice A1 l1.length c1)) :=
      ⟨⟨by have h := Box.new ((w.alloc (.cells #[.slice A0 l0.length c0] 22)).alloc (.cells #[.slice A1 l1.length c1] 24)) (.int .i64 0) 3; simpa using h,
        ((Box.new w (.slice A0 l0.length c0) 22).alloc _).alloc _,
        by have h := (Box.new (w.alloc (.cells #[.slice A0 l0.length c0] 22)) (.slice A1 l1.length c1) 24).alloc (.cells #[.int .i64 0] 3); simpa using h,
        (((Below.refl _ _).alloc (Nat.le_refl _) _).alloc (by simp) _).alloc (by simp; omega) _, by omega, by omega, by omega⟩⟩
    have key : a1 < 0 ∨ (∃ n : Nat, a1 = n ∧ n ≤ l0.length) ∨ (l0.length : Int) < a1 := by
      by_cases h : a1 < 0
      · exact .inl h
      · by_cases h2 : a1 ≤ l0.length
        · exact .inr (.inl ⟨a1.toNat, by omega, by omega⟩)
        · exact .inr (.inr (by omega))
    rcases key with h | ⟨n, rfl, h⟩ | h
    · have hs : Aside0 (start l0.length a1 = 0) := ⟨by unfold start; omega⟩
      go_wp2
      go_meet
      case rel => exact ⟨0, rfl, by omega, hs, HW⟩
    · have hs : Aside0 (start l0.length n = n) := ⟨by unfold start; omega⟩
      go_wp2
      go_meet
      case rel => exact ⟨n, rfl, by omega, hs, HW⟩
    · have hs : Aside0 (start l0.length a1 = l0.length) := ⟨by unfold start; omega⟩
      go_wp2
      go_meet
      case rel => exact ⟨l0.length, rfl, by omega, hs, HW⟩
  case rest =>
    obtain ⟨s, rfl, hs, HS, HW⟩ := hcut
    have hG : w.heap.size ≤ w.heap.size + 1 + 1 := by omega
    generalize w.heap.size + 1 + 1 = bp at HW hG ⊢
    go_upto_block 0 with (fail)
    go_cut [9, 10] (fun v9 v10 wc => ∃ low step p : Nat, v9 = .int .i64 low ∧ v10 = .int .i64 step ∧ Aside0 (gal l0 l1 (l0.length + 1) s 1 0 = (low, step, p)) ∧ low ≤ l0.length ∧ 1 ≤ step ∧ step ≤ 2 * l0.length + 1 ∧ p ≤ low + 1 ∧ Aside0 (FS w wc bp w.heap.size (w.heap.size + 1) p (.slice A0 l0.length c0) (.slice A1 l1.length c1)))
    case first =>
      go_wp2_with fail
      go_loopw [9, 10] (fun v9 v10 wr => ∃ low step p k : Nat, v9 = .int .i64 low ∧ v10 = .int .i64 step ∧ Aside0 (gal l0 l1 (l0.length + 1) s 1 0 = gal l0 l1 k low step p) ∧ low ≤ l0.length ∧ l0.length < low + k ∧ 1 ≤ step ∧ step ≤ 2 * l0.length + 1 ∧ p ≤ low ∧ Aside0 (FS w wr bp w.heap.size (w.heap.size + 1) p (.slice A0 l0.length c0) (.slice A1 l1.length c1))) (fun v9 v10 wr => l0.length - (intOf v9).toNat)
      case atStart => exact ⟨s, 1, 0, l0.length + 1, rfl, rfl, ⟨rfl⟩, hs, by omega, by omega, by omega, by omega, HW⟩
      case round =>
        obtain ⟨low, step, p, k, rfl, rfl, HE, hl0, hk, hs1, hs2, hp, HW2⟩ := hrel
        clear HW
        obtain ⟨k, rfl⟩ : ∃ m, k = m + 1 := ⟨k - 1, by omega⟩
        have hbl := HW2.out.l.cell
        by_cases c1 : low + step - 1 < l0.length
        · have b1 : decide ((low : Int) < l0.length) = true := decide_eq_true (by omega)
          have b1' : decide (low < l0.length) = true := decide_eq_true (by omega)
          have b2 : decide ((low : Int) + step - 1 < l0.length) = true := decide_eq_true (by omega)
          have hcl := HF.out wr bp w.heap.size (w.heap.size + 1) p (low + step - 1) ((low : Int) + step - 1) (by omega) HW2.out (by omega) c1
          have HCL := Aside0.mk hcl
          clear hcl
          cases ha : ahB l0 l1 (low + step - 1) with
          | true =>
            rw [ha] at HCL
            have HN := Aside0.mk (HE.out.trans (show gal l0 l1 (k + 1) low step p = gal l0 l1 k (low + step) (2 * step) (p + 1) by simp only [gal]; rw [if_pos c1, if_pos ha]))
            clear ha
            go_wp2_with (go_at_call 60; refine HCL.out.mono ?_; rintro e w' ⟨rfl, hF2⟩; have HF2 := Aside0.mk hF2; clear hF2; have hbl2 := HF2.out.l.cell)
            go_roundw
            case rel => exact ⟨low + step, 2 * step, p + 1, k, by go_num, by go_num, HN, by omega, by omega, by omega, by omega, by omega, HF2⟩
            case measure => simp [intOf]; omega
          | false =>
            rw [ha] at HCL
            have HN := Aside0.mk (HE.out.trans (show gal l0 l1 (k + 1) low step p = (low, step, p + 1) by simp only [gal]; rw [if_pos c1, if_neg (by simp [ha])]))
            clear ha
            go_wp2_with (go_at_call 60; refine HCL.out.mono ?_; rintro e w' ⟨rfl, hF2⟩; have HF2 := Aside0.mk hF2; clear hF2; have hbl2 := HF2.out.l.cell)
            go_meet
            case rel => exact ⟨low, step, p + 1, rfl, rfl, HN, hl0, hs1, hs2, by omega, HF2⟩
        · have HN := Aside0.mk (HE.out.trans (show gal l0 l1 (k + 1) low step p = (low, step, p) by simp only [gal]; rw [if_neg c1]))
          have b2 : decide ((low : Int) + step - 1 < l0.length) = false := decide_eq_false (by omega)
          by_cases c0 : low < l0.length
          all_goals
            go_wp2
            go_meet
            case rel => exact ⟨low, step, p, rfl, rfl, HN, hl0, hs1, hs2, by omega, HW2⟩
    case rest =>
      obtain ⟨low, step, p, rfl, rfl, HE, hl0, hs1, hs2, hp, HW2⟩ := hcut
      clear HW
      have hbl := HW2.out.l.cell
      go_upto_region 7 with (fail)
      go_cut [11] (fun v11 wc => v11 = .int .i64 (min (low + step - 1) l0.length : Nat) ∧ Aside0 (FS w wc bp w.heap.size (w.heap.size + 1) p (.slice A0 l0.length c0) (.slice A1 l1.length c1)))
      case first =>
        by_cases c : low + step - 1 ≤ l0.length
        all_goals
          go_wp2
          go_meet
          case rel => exact ⟨by go_num, HW2⟩
      case rest =>
        obtain ⟨rfl, HW3⟩ := hcut
        clear HW2 hbl
        have hmn : min (low + step - 1) l0.length ≤ l0.length := Nat.min_le_right _ _
        have hmx : low ≤ min (low + step - 1) l0.length := by omega
        have HR : Aside0 (findP l0 a1 l1 = bin l0 l1 (l0.length + 1) low (min (low + step - 1) l0.length) p) := ⟨by unfold findP; rw [HS.out, HE.out]⟩
        generalize min (low + step - 1) l0.length = high at hmn hmx HR ⊢
        go_wp2_with fail
        go_loopw [9, 11] (fun v9 v11 wr => ∃ low high q k : Nat, v9 = .int .i64 low ∧ v11 = .int .i64 high ∧ Aside0 (findP l0 a1 l1 = bin l0 l1 k low high q) ∧ low ≤ high ∧ high ≤ l0.length ∧ high < low + k ∧ q + (high - low) ≤ 2 * l0.length + 1 ∧ Aside0 (FS w wr bp w.heap.size (w.heap.size + 1) q (.slice A0 l0.length c0) (.slice A1 l1.length c1))) (fun v9 v11 wr => (intOf v11 - intOf v9).toNat)
        case atStart => exact ⟨low, high, p, l0.length + 1, rfl, rfl, HR, hmx, hmn, by omega, by omega, HW3⟩
        case round =>
          clear HR HW3
          obtain ⟨low, high, q, k, rfl, rfl, HR, hlh, hh, hk, hq, HW2⟩ := hrel
          obtain ⟨k, rfl⟩ : ∃ m, k = m + 1 := ⟨k - 1, by omega⟩
          by_cases c1 : low < high
          · have b1 : decide (low < high) = true := decide_eq_true c1
            have hcl := HF.out wr bp w.heap.size (w.heap.size + 1) q (low + (high - low) / 2) ((low : Int) + (high - low) / 2) (by omega) HW2.out (by omega) (by omega)
            have HCL := Aside0.mk hcl
            clear hcl
            cases ha : ahB l0 l1 (low + (high - low) / 2) with
            | true =>
              rw [ha] at HCL
              have HN := Aside0.mk (HR.out.trans (show bin l0 l1 (k + 1) low high q = bin l0 l1 k (low + (high - low) / 2 + 1) high (q + 1) by simp only [bin]; rw [if_pos c1, if_pos ha]))
              clear ha
              go_wp2_with (go_at_call 60; refine HCL.out.mono ?_; rintro e w' ⟨rfl, hF2⟩; have HF2 := Aside0.mk hF2; clear hF2)
              go_roundw
              case rel => exact ⟨low + (high - low) / 2 + 1, high, q + 1, k, by go_num, rfl, HN, by omega, by omega, by omega, by omega, HF2⟩
              case measure => simp [intOf]; omega
            | false =>
              rw [ha] at HCL
              have HN := Aside0.mk (HR.out.trans (show bin l0 l1 (k + 1) low high q = bin l0 l1 k low (low + (high - low) / 2) (q + 1) by simp only [bin]; rw [if_pos c1, if_neg (by simp [ha])]))
              clear ha
              go_wp2_with (go_at_call 60; refine HCL.out.mono ?_; rintro e w' ⟨rfl, hF2⟩; have HF2 := Aside0.mk hF2; clear hF2)
              go_roundw
              case rel => exact ⟨low, low + (high - low) / 2, q + 1, k, rfl, by go_num, HN, by omega, by omega, by omega, by omega, HF2⟩
              case measure => simp [intOf]; omega
          · have b1 : decide (low < high) = false := decide_eq_false c1
            have HN := Aside0.mk (HR.out.trans (show bin l0 l1 (k + 1) low high q = (low, q) by simp only [bin]; rw [if_neg c1]))
            have hbp := HW2.out.p.cell
            have hfp := HW2.out.p.frozen
            go_wp2
            go_region
            all_goals go_wp2
            have hc : (wr.setCell ⟨bp, 0, none⟩ (.int .i64 q)).cell? ⟨bp, 0, none⟩ = some (.int .i64 q) := (HW2.out.p.set _).cell
            refine bodyPost_ret (v := .tuple #[.int .i64 low, .int .i64 q]) (by simp [results, Try.results12, go_sem, hc]) rfl ⟨?_, (HW2.out.B.setCell (p := ⟨bp, 0, none⟩) hG _).drew⟩
            rw [HN.out]
/-- In the printed texts' form. -/
def seek_Find.f (l0 : List (List S56)) (a1 : Int) (l2 : List S56) : Option (Int × Int) := if l0.length ≤ 549755813888 then some ((findP l0 a1 l2).1, (findP l0 a1 l2).2) else none
theorem seek_Find.calls (A0 : Option Addr) (c0 : Nat) (l0 : List (List S56)) (a1 : Int) (A2 : Option Addr) (c2 : Nat) (l2 : List S56) (r1 r2 : Int) (w : World)
    (hr0 : Kd.C (Kd.slice 56 k56) w A0 l0.length l0) (hc0 : l0.length ≤ c0) (hr2 : Kd.C k56 w A2 l2.length l2) (hc2 : l2.length ≤ c2) (h : seek_Find.f l0 a1 l2 = some (r1, r2)) :
    Calls Try.prog 12 #[.slice A0 l0.length c0, .int .i64 a1, .slice A2 l2.length c2] w fun e w' => e = .returned (.tuple #[.int .i64 r1, .int .i64 r2]) ∧ Below w.heap.size w w' := by
  unfold seek_Find.f at h
  split at h
  · injection h with h; injection h with h1 h2; subst h1; subst h2
    exact seek_Find A0 c0 l0 a1 A2 c2 l2 w (by assumption) hr0 hc0 hr2 hc2
  · cases h
end Go.Proofs.Ytpflmgbpjhbmnaa.B
