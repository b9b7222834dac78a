/- Cons. -/
import Derived.Test.YtpflmgbpjhbmnaaGreatQBm7
import Derived.Test.YtpflmgbpjhbmnaaGreatQBm14
import Derived.Test.YtpflmgbpjhbmnaaGreatQBm5
section
namespace Go.Proofs.YtpflmgbpjhbmnaaGreat.B
open Go Go.RowKit Go.Shelf Go.Proofs Go.Proofs.YtpflmgbpjhbmnaaGreatW.PrintWords Go.Proofs.YtpflmgbpjhbmnaaGreatW.PrintLast Go.Proofs.YtpflmgbpjhbmnaaGreatW.PrintMore Go.Proofs.YtpflmgbpjhbmnaaGreat.Rg
set_option linter.unusedVariables false
set_option linter.unusedSimpArgs false
set_option maxRecDepth 100000
attribute [local go_sem] Oper.semAt_some
def mJ (a b : Int) : Int × Int := (fC.f a b).getD (0, 0)
theorem yM (a b : Int) : fC.f a b = some (mJ a b) := by
 unfold mJ fC.f
 repeat' split
 all_goals rfl
theorem uF (a b : Int) : (mJ a b).2 = 0 ∨ (mJ a b).2 = 60 := by
 have h := yM a b
 generalize mJ a b = r at h
 unfold fC.f at h
 repeat' split at h
 all_goals
  have := Option.some.inj h
  subst this
  simp
def lB : Int → List S61 → Option Int
 | n, [] => some n
 | n, u :: r => if (mJ n u.f2).2 = 0 then lB (mJ n u.f2).1 r else none
def eS (l : List S61) : Option (List S61) :=
 match lB 0 l with
 | none => none
 | some n => if n = 0 then some [] else some [⟨(l.headD z61).f0, (l.headD z61).f1, n⟩]
def eF : List S61 → List (List S61) → Option (List S61)
 | out, [] => some out
 | out, l :: r => (eS l).bind fun x => eF (out ++ x) r
theorem jN (ls : List (List S61)) (l : List S61) : ∀ (out : List S61), eF out (ls ++ [l]) = (eF out ls).bind fun o => (eS l).map fun x => o ++ x := by
 induction ls with
 | nil =>
  intro out
  simp only [List.nil_append, eF, Option.bind_some]
  cases eS l <;> rfl
 | cons a ls ih =>
  intro out
  simp only [List.cons_append, eF]
  cases h : eS a with
  | none => rfl
  | some x => simp only [Option.bind_some]; exact ih _
theorem mK (l x : List S61) (h : eS l = some x) : x.length ≤ 1 := by
 unfold eS at h
 split at h
 ·cases h
 ·split at h
  ·rw [← Option.some.inj h]; simp
  ·rw [← Option.some.inj h]; simp
theorem oO : ∀ (ls : List (List S61)) (out o : List S61), eF out ls = some o → o.length ≤ out.length + ls.length := by
 intro ls
 induction ls with
 | nil => intro out o h; simp [eF] at h; subst h; simp
 | cons l ls ih =>
  intro out o h
  simp only [eF] at h
  cases hx : eS l with
  | none => rw [hx] at h; cases h
  | some x =>
   rw [hx] at h
   have h1 := ih _ _ h
   have h2 := mK l x hx
   simp at h1 ⊢
   omega
theorem uG {α : Type} (cf : α → α → Int) (sz : Nat) : ∀ (k : Nat) (A : Option Addr) (c : Nat) (z : List α), (eW cf sz k A c z).length ≤ k := by
 intro k
 induction k with
 | zero => intro A c z; simp [eW]
 | succ k ih =>
  intro A c z
  cases z with
  | nil => simp [eW]
  | cons x r => unfold eW; simp only [List.length_cons]; have := ih (if c = grp cf x r then A else A.map (·.add (grp cf x r * sz))) (c - grp cf x r) ((x :: r).drop (grp cf x r)); omega
theorem uH {α : Type} (cf : α → α → Int) (sz : Nat) : ∀ (k : Nat) (A : Option Addr) (c : Nat) (z : List α), ∀ x ∈ eW cf sz k A c z, ∀ ad, x.1 = some ad → ∃ ad0, A = some ad0 ∧ ad.block = ad0.block := by
 intro k
 induction k with
 | zero => intro A c z x hx; simp [eW] at hx
 | succ k ih =>
  intro A c z x hx ad hA
  cases z with
  | nil => simp [eW] at hx
  | cons y r =>
   unfold eW at hx
   rcases List.mem_cons.1 hx with rfl | hx
   ·exact ⟨ad, hA, rfl⟩
   ·obtain ⟨a2, h2, h3⟩ := ih _ _ _ x hx ad hA
    split at h2
    ·exact ⟨a2, h2, h3⟩
    ·obtain ⟨a0, ha0, rfl⟩ := Option.map_eq_some_iff.1 h2
     refine ⟨a0, ha0, h3.trans ?_⟩
     unfold Addr.add
     split <;> rfl
theorem lC {α : Type} {d : Kd α} {e base : Nat} {ok : Nat → Prop} {v : Value} {xs : List α} {X : Nat → Prop} {W W' : World} (h : Kd.R d e W base ok v xs) (st : dP X W W') (hn : ∀ k, base ≤ k → ¬ X k) : Kd.R d e W' base ok v xs :=
 Kd.R_mono (Kd.R_move (Kd.R_bound h) (fun k hk => st.block k hk.2.2.1 (hn k hk.2.1))) (fun _ hk => hk.1)
theorem sB (A : Option Addr) (n c : Nat) (w : World) : Calls Tryz.prog 78 #[.slice A n c, .func (.func 80) #[] #[]] w fun e w' => e = .returned (.func (.func 103) #[] #[.pointer (some ⟨w.heap.size, 0, none⟩), .pointer (some ⟨w.heap.size + 1, 0, none⟩)]) ∧ w' = (w.alloc (.cells #[.slice A n c] 22)).alloc (.cells #[.func (.func 80) #[] #[]] 97) := by
 go_enter Tryz.func78, Tryz.ntmps78
 go_wp2
 go_ret
 exact ⟨rfl, rfl⟩
def lD : Nat → List S61 → List (List S61)
 | 0, _ => []
 | _ + 1, [] => []
 | k + 1, x :: r => (x :: r).take (grp cY x r) :: lD k ((x :: r).drop (grp cY x r))
def dC (l : List S61) : List S61 × Int :=
 match eF [] (lD l.length (eY l)) with
 | some o => (o, 0)
 | none => ([], 60)
def fI {w : World} (l : List (Option Addr × Nat × List (UpR w))) : List (List S61) := l.map fun x => x.2.2.map UpR.up
theorem zQ {w : World} (x : UpR w) : ∀ r : List (UpR w), grp (fun x y : UpR w => cY x.up y.up) x r = grp cY x.up (r.map UpR.up) := by
 intro r
 unfold grp
 congr 1
 induction r with
 | nil => rfl
 | cons y r ih =>
  rw [List.map_cons, List.takeWhile_cons, List.takeWhile_cons]
  by_cases h : cY x.up y.up = 0
  ·simp [h, ih]
  ·simp [h]
theorem mL {w : World} : ∀ (k : Nat) (A : Option Addr) (c : Nat) (z : List (UpR w)), fI (eW (fun x y : UpR w => cY x.up y.up) 4 k A c z) = lD k (z.map UpR.up) := by
 intro k
 induction k with
 | zero => intro A c z; rfl
 | succ k ih =>
  intro A c z
  cases z with
  | nil => rfl
  | cons x r =>
   show ((x :: r).take _).map UpR.up :: fI _ = _
   rw [ih, zQ]
   simp only [List.map_cons, lD]
   rw [List.map_take, List.map_drop, List.map_cons]
structure CI (w : World) (N : Nat) (A1 : Option Addr) (z : List (UpR w)) (out : Option (List S61)) (W : World) : Prop where
 r0 : Box W w.heap.size (.slice none 0 0) 22
 r1 : Box W (w.heap.size + 1) (.int .i64 0) 27
 out : ∃ (A : Option Addr) (c : Nat) (o : List S61), out = some o ∧ Box W (w.heap.size + 1 + 1) (.slice A o.length c) 22 ∧ Kd.R k61 61 W (N + 2) (fun _ => True) (.slice A o.length c) o
 B : Below w.heap.size w W
 C : Kd.C (kUR w) W A1 z.length z
theorem CI.below {w : World} {N : Nat} {A1 : Option Addr} {z : List (UpR w)} {out out' : Option (List S61)} {W W' : World} (h : CI w N A1 z out W) (hb : Below W.heap.size W W') (e : out = out') : CI w N A1 z out' W' := by
 subst e
 obtain ⟨A, c, o, e, hb2, hr⟩ := h.out
 exact ⟨h.r0.below hb, h.r1.below hb, ⟨A, c, o, e, hb2.below hb, Kd.R_below hr hb⟩, h.B.trans (hb.mono h.B.size), Kd.C_below h.C hb⟩
theorem CI.step {w : World} {N : Nat} {A1 : Option Addr} {z : List (UpR w)} {out : Option (List S61)} {W W' : World} {X : Nat → Prop} (h : CI w N A1 z out W) (st : dP X W W') (h0 : ∀ k, X k → w.heap.size + 3 ≤ k) (h1 : ∀ k, N + 2 ≤ k → ¬ X k) (hA : ∀ ad, A1 = some ad → ¬ X ad.block) : CI w N A1 z out W' := by
 obtain ⟨A, c, o, e, hb, hr⟩ := h.out
 exact ⟨h.r0.step st (fun hx => by have := h0 _ hx; omega), h.r1.step st (fun hx => by have := h0 _ hx; omega), ⟨A, c, o, e, hb.step st (fun hx => by have := h0 _ hx; omega), lC hr st h1⟩,
  h.B.trans (st.below h.B.size (fun k hk => by have := h0 k hk; omega)), mI (fun h => h) h.C st hA⟩
structure CX (w : World) (out : Option (List S61)) (W : World) : Prop where
 none_ : out = none
 r0 : Box W w.heap.size (.slice none 0 0) 22
 r1 : Box W (w.heap.size + 1) (.int .i64 60) 27
 B : Below w.heap.size w W
theorem CX.step {w : World} {out : Option (List S61)} {W W' : World} {X : Nat → Prop} (h : CX w out W) (st : dP X W W') (h0 : ∀ k, X k → w.heap.size + 3 ≤ k) : CX w out W' :=
 ⟨h.none_, h.r0.step st (fun hx => by have := h0 _ hx; omega), h.r1.step st (fun hx => by have := h0 _ hx; omega), h.B.trans (st.below h.B.size (fun k hk => by have := h0 k hk; omega))⟩
theorem rC {w : World} {W : World} {D : Nat} {tmps : Array Value} {v : Value} {n : Int} {R : Ending → World → Prop} (h2 : tmps[2]? = some (.pointer (some ⟨w.heap.size, 0, none⟩))) (h3 : tmps[3]? = some (.pointer (some ⟨w.heap.size + 1, 0, none⟩)))
  (hD : W.heap[D]? = some (.deferred (some []))) (hb0 : Box W w.heap.size v 22) (hb1 : Box W (w.heap.size + 1) (.int .i64 n) 27) (hd : w.heap.size + 2 ≤ D) (hv : ∃ A m c, v = .slice A m c)
  (hR : R (.returned (.tuple #[v, .int .i64 n])) (W.putObj D (.deferred none))) :
  bodyPostM Fence.wide 3 Tryz.prog Tryz.f54 R .ret { tmps := tmps, defers := [{ target := .collected D, args := #[] }] } W := by
 refine ⟨by simp, .inl ⟨_, _, rfl, run_takeDeferred hD, ?_⟩⟩
 have hst : dP (fun k => k = D) W (W.putObj D (.deferred none)) := dP.put _ _ _ rfl
 have c0 := (hb0.step hst (by omega)).cell
 have c1 := (hb1.step hst (by omega)).cell
 obtain ⟨A, m, c, rfl⟩ := hv
 refine ⟨_, ?_, hR⟩
 simp [results, Tryz.results54, go_sem, h2, h3, c0, c1]
set_option maxHeartbeats 4000000 in
theorem sC (A0 : Option Addr) (c0 : Nat) (l0 : List S61) (w : World) (hr0 : Kd.C k61 w A0 l0.length l0) (hc0 : l0.length ≤ c0) (hl : l0.length ≤ 1099511627776) (hrows : ∀ u ∈ l0, u.f0.length ≤ 1099511627776) :
  Calls Tryz.prog 54 #[.slice A0 l0.length c0] w fun e w' => ∃ v : Value, e = .returned (.tuple #[v, .int .i64 (dC l0).2]) ∧ Kd.R k61 61 w' w.heap.size (fun _ => True) v (dC l0).1 ∧ Below w.heap.size w w' := by
 have HS : aA (∀ W, Below w.heap.size w W → Calls Tryz.prog 79 #[.slice A0 l0.length c0, .func (.func 80) #[] #[]] W fun e w' => ∃ (A : Option Addr) (c : Nat) (z : List (UpR w)), e = .returned (.slice A z.length c) ∧ aA (z.map UpR.up = eY l0) ∧ z.length ≤ c ∧ aA (Kd.R (kUR w) 61 w' W.heap.size (fun _ => True) (.slice A z.length c) z) ∧ aA (Below W.heap.size W w')) :=
  ⟨fun W hW => by
   obtain ⟨zs, hz, hC⟩ := wV hr0
   have hzl : zs.length = l0.length := by rw [← hz]; simp
   rw [← hzl] at hC
   rw [← hzl]
   refine (oN A0 c0 w W zs hW (Kd.C_below hC hW) (by omega) (by omega)).mono ?_
   rintro e w' ⟨v, z, g1, g2, g3, g4⟩
   obtain ⟨A, c, rfl, hc, _⟩ := Kd.R_reads g3
   exact ⟨A, c, z, g1, ⟨by rw [g2, hz]⟩, hc, ⟨g3⟩, ⟨g4⟩⟩⟩
 clear hr0
 generalize hRes : dC l0 = res
 have HRes : aA (dC l0 = res) := ⟨hRes⟩
 clear hRes
 refine (callsIn_wide (n := 3)).1 ?_
 refine callsIn_of_wp_marks Tryz.func54 rfl trivial ?_ rfl
 simp only [Tryz.ntmps54, List.size_toArray, List.length_cons, List.length_nil, Nat.reduceAdd, Nat.reduceSub, Array.replicate_succ, Array.replicate_zero, List.push_toArray, List.append_toArray, List.nil_append, List.cons_append]
 gi_wp2_with (first
  | (refine ⟨trivial, ?_⟩; gi_at_call 79; refine (callsIn_wide.2 (HS.out _ ?s1)).mono ?_; (case s1 => exact (((Below.refl _ _).alloc (Nat.le_refl _) _).alloc (by simp) _).alloc (by simp; omega) _); rintro e w1 ⟨A1, c1, z, rfl, HZ, hc1, HR1, HB1⟩)
  | (refine ⟨trivial, ?_⟩; gi_at_call 78; refine (callsIn_wide.2 (sB _ _ _ _)).mono ?_; rintro e w2 ⟨rfl, rfl⟩))
 have hlen : z.length ≤ 1099511627776 := by
  have h1 := congrArg List.length HZ.out
  rw [List.length_map, gB] at h1
  omega
 have hB3 : Below w.heap.size w (((w.alloc (.cells #[.slice none 0 0] 22)).alloc (.cells #[.int .i64 0] 27)).alloc (.cells #[.slice none 0 0] 22)) := (((Below.refl _ _).alloc (Nat.le_refl _) _).alloc (by simp) _).alloc (by simp; omega) _
 have hb0 : Box (((w.alloc (.cells #[.slice none 0 0] 22)).alloc (.cells #[.int .i64 0] 27)).alloc (.cells #[.slice none 0 0] 22)) w.heap.size (.slice none 0 0) 22 := ((Box.new w _ _).alloc _).alloc _
 have hb1 : Box (((w.alloc (.cells #[.slice none 0 0] 22)).alloc (.cells #[.int .i64 0] 27)).alloc (.cells #[.slice none 0 0] 22)) (w.heap.size + 1) (.int .i64 0) 27 := by
  have h := (Box.new (w.alloc (.cells #[.slice none 0 0] 22)) (.int .i64 0) 27).alloc (.cells #[.slice none 0 0] 22); simpa using h
 have hb2 : Box (((w.alloc (.cells #[.slice none 0 0] 22)).alloc (.cells #[.int .i64 0] 27)).alloc (.cells #[.slice none 0 0] 22)) (w.heap.size + 1 + 1) (.slice none 0 0) 22 := by
  have h := Box.new ((w.alloc (.cells #[.slice none 0 0] 22)).alloc (.cells #[.int .i64 0] 27)) (.slice none 0 0) 22; simpa using h
 have hs3 : (((w.alloc (.cells #[.slice none 0 0] 22)).alloc (.cells #[.int .i64 0] 27)).alloc (.cells #[.slice none 0 0] 22)).heap.size = w.heap.size + 3 := by simp
 generalize (((w.alloc (.cells #[.slice none 0 0] 22)).alloc (.cells #[.int .i64 0] 27)).alloc (.cells #[.slice none 0 0] 22)) = w3 at HR1 HB1 hB3 hb0 hb1 hb2 hs3
 have hw1 : w3.heap.size ≤ w1.heap.size := HB1.out.size
 have hBl : Below w1.heap.size w1 ((w1.alloc (.cells #[.slice A1 z.length c1] 22)).alloc (.cells #[.func (.func 80) #[] #[]] 97)) := ((Below.refl _ _).alloc (Nat.le_refl _) _).alloc (by simp) _
 have hx1 : Box ((w1.alloc (.cells #[.slice A1 z.length c1] 22)).alloc (.cells #[.func (.func 80) #[] #[]] 97)) w1.heap.size (.slice A1 z.length c1) 22 := (Box.new w1 _ _).alloc _
 have hx2 : Box ((w1.alloc (.cells #[.slice A1 z.length c1] 22)).alloc (.cells #[.func (.func 80) #[] #[]] 97)) (w1.heap.size + 1) (.func (.func 80) #[] #[]) 97 := by
  have h := Box.new (w1.alloc (.cells #[.slice A1 z.length c1] 22)) (.func (.func 80) #[] #[]) 97; simpa using h
 have hsl : ((w1.alloc (.cells #[.slice A1 z.length c1] 22)).alloc (.cells #[.func (.func 80) #[] #[]] 97)).heap.size = w1.heap.size + 2 := by simp
 generalize ((w1.alloc (.cells #[.slice A1 z.length c1] 22)).alloc (.cells #[.func (.func 80) #[] #[]] 97)) = wl at hBl hx1 hx2 hsl ⊢
 have hAlt : ∀ ad, A1 = some ad → w.heap.size + 3 ≤ ad.block ∧ ad.block < w1.heap.size := fun ad h => by
  subst h
  exact ⟨by have := Kd.R_base HR1.out ad.block (by simp [Value.ownBlock]); omega, Kd.R_lt HR1.out ad.block (by simp [Value.ownBlock])⟩
 have hC1 := (Kd.R_reads' HR1.out).2.2
 have hCl := Kd.C_below hC1 hBl
 have hBwl : Below w.heap.size w wl := hB3.trans ((HB1.out.mono hB3.size).trans (hBl.mono (by omega)))
 refine zL (w := wl) (gf := 103) (lb := #[.pointer (some ⟨w1.heap.size, 0, none⟩), .pointer (some ⟨w1.heap.size + 1, 0, none⟩)]) rfl (enters_of Tryz.func103 (by kernel_rfl) rfl)
  (encs := oL) (X := fun k => k = w1.heap.size) (Y := fun k => k = w.heap.size ∨ k = w.heap.size + 1 ∨ k = w.heap.size + 1 + 1) (L := eW (fun x y : UpR w => cY x.up y.up) 4 z.length A1 c1 z)
  (rY z A1 c1 w1.heap.size (w1.heap.size + 1) wl _ hBwl hCl hc1 hlen hx1 hx2 (by omega) (by rintro (h | h) <;> omega) (by rintro (h | h) <;> omega) (fun ad h hx => by have := hAlt ad h; rcases hx with hx | hx <;> omega) (fun ad h => by have := hAlt ad h; omega) (fun k hk => by rcases hk with hk | hk <;> omega) (by omega))
  (fun k hk => by omega) (fun k hk => by omega) (fun _ => rfl)
  (fun pre W => CI w wl.heap.size A1 z (eF [] (fI pre)) W) (fun c pre W => c = .ret ∧ CX w (eF [] (fI pre)) W)
  (fun s W W' h st => h.step st (fun k hk => by rcases hk with hk | hk | hk <;> omega) (fun k hk hx => by rcases hx with hx | hx | hx <;> omega) (fun ad h hx => by have := hAlt ad h; rcases hx with hx | hx | hx <;> omega))
  (fun c s W W' h st => ⟨h.1, h.2.step st (fun k hk => by rcases hk with hk | hk | hk <;> omega)⟩)
  (fun W1 hW1 hs1 => ⟨((hb0.below HB1.out).below (hBl.trans (hW1.mono (by omega)))), ((hb1.below HB1.out).below (hBl.trans (hW1.mono (by omega)))), ⟨none, 0, [], rfl, ((hb2.below HB1.out).below (hBl.trans (hW1.mono (by omega)))), Kd.R_nil _ _ _ _ _⟩, hBwl.trans (hW1.mono hBwl.size), Kd.C_below hCl hW1⟩)
  (fun x => { tmps := #[Value.slice A0 l0.length c0, undef, Value.pointer (some { block := w.heap.size, off := 0 }), Value.pointer (some { block := w.heap.size + 1, off := 0 }), Value.pointer (some { block := w.heap.size + 1 + 1, off := 0 }), .slice x.1 x.2.2.length x.2.1, undef, undef, undef, undef, Value.slice A0 l0.length c0, Value.slice A1 z.length c1, Value.func (Fn.func 103) #[] #[Value.pointer (some { block := w1.heap.size, off := 0 }), Value.pointer (some { block := w1.heap.size + 1, off := 0 })], .slice x.1 x.2.2.length x.2.1, undef, undef, undef, undef, undef, undef, undef, undef, undef, undef, undef, undef, undef, undef, undef, undef, undef, undef, undef, undef, undef, undef, undef, undef, undef, undef, undef, undef, undef, undef, undef, undef, undef, undef], defers := [] }) ?assign ?body ?done ?stop
 case assign =>
  intro l x W K hK
  unfold oL
  gi_wp2
  exact hK
 case body =>
  intro l pre x rest W hL hI hN
  obtain ⟨h3, h4, h5, h6, h7⟩ := tX (kUR w) (fun x y : UpR w => cY x.up y.up) W z.length A1 c1 z hI.C hc1 x (by show x ∈ eW _ 4 _ _ _ _; rw [hL]; simp)
  have hpl : pre.length + 1 ≤ 1099511627776 := by
   have h1 := uG (fun x y : UpR w => cY x.up y.up) 4 z.length A1 c1 z
   rw [hL] at h1
   simp at h1
   omega
  have HBK : aA (∀ ad, x.1 = some ad → w.heap.size + 3 ≤ ad.block ∧ ad.block < w1.heap.size) := ⟨fun ad h => by
   obtain ⟨a0, h0, h1⟩ := uH (fun x y : UpR w => cY x.up y.up) 4 z.length A1 c1 z x (by rw [hL]; simp) ad h
   rw [h1]; exact hAlt a0 h0⟩
  have HALT := aA.mk hAlt
  obtain ⟨Ax, cx, rx⟩ := x
  dsimp only at h3 h4 h5 h6 h7 HBK ⊢
  have HRW : aA (∀ e ∈ rx, e.up.f0.length ≤ 1099511627776) := ⟨fun e he => hrows _ ((Stab.sortS_mem (c := cY) l0 e.up).1 (by have h : e.up ∈ z.map UpR.up := List.mem_map.2 ⟨e, h7 e he, rfl⟩; rw [HZ.out] at h; exact h))⟩
  have HI := aA.mk hI
  have HCx := aA.mk h3
  have HNE := aA.mk h5
  have HLs := aA.mk (And.intro hs3 (And.intro hsl hw1))
  clear hI h3 h5 h7 hrows hL hB3 hb0 hb1 hb2 hs3 hBl hx1 hx2 hsl hC1 hCl hBwl hAlt HR1 HB1 HZ HS hw1
  have HB0 := aA.mk (Below.refl W.heap.size W)
  gi_wp2
  gi_loopw [6, 7, 16] (fun v6 v7 v16 wi => ∃ (i : Nat) (n : Int), v16 = .int .i64 i ∧ v6 = .int .i64 n ∧ v7 = .int .i64 0 ∧ i ≤ rx.length ∧ aA (lB 0 (rx.map UpR.up) = lB n ((rx.map UpR.up).drop i)) ∧ aA (Below W.heap.size W wi)) (fun v6 v7 v16 wi => rx.length - (intOf v16).toNat)
  case atStart => exact ⟨0, 0, rfl, rfl, rfl, by omega, ⟨rfl⟩, HB0⟩
  case round =>
   obtain ⟨i, n, rfl, rfl, rfl, hi, HSm, HBi⟩ := hrel
   by_cases hlt : i < rx.length
   ·have hb1 : decide ((i : Int) < (rx.length : Int)) = true := decide_eq_true (by omega)
    obtain ⟨ad, hA, hy0, hy1, hy2, hy3⟩ := wZ HCx.out i rx[i] (List.getElem?_eq_getElem hlt)
    subst hA
    replace hy0 := aH HBi.out hy0
    replace hy1 := aH HBi.out hy1
    replace hy2 := aH HBi.out hy2
    replace hy3 := aH HBi.out hy3
    have HD : aA ((rx.map UpR.up).drop i = rx[i].up :: (rx.map UpR.up).drop (i + 1)) := ⟨by
     rw [List.drop_eq_getElem_cons (by simpa using hlt)]; simp⟩
    clear HCx
    generalize rx[i] = y at hy0 hy1 hy2 hy3 HD
    have HW := aA.mk (fun W2 => fC.calls n y.up.f2 (mJ n y.up.f2).1 (mJ n y.up.f2).2 W2 (yM n y.up.f2))
    have hbB : Below W.heap.size W (wr.alloc (.cells #[.slice y.1.1 y.up.f0.length y.1.2.1, .int .i64 y.up.f1.f0, .int .i64 y.up.f1.f1, .int .i64 y.up.f2] 61)) := HBi.out.alloc HBi.out.size _
    have HBB := aA.mk hbB
    clear hbB
    by_cases he : (mJ n y.up.f2).2 = 0
    ·have HSm2 : aA (lB 0 (rx.map UpR.up) = lB (mJ n y.up.f2).1 ((rx.map UpR.up).drop (i + 1))) := ⟨by rw [HSm.out, HD.out]; simp only [lB]; rw [if_pos he]⟩
     rw [he] at HW
     clear he HSm HD HI
     generalize (mJ n y.up.f2).1 = n2 at HW HSm2
     gi_wp2_with (refine ⟨trivial, rfl, ?_⟩; gi_at_call 81; refine (CallsIn.inRound l (callsIn_wide.2 (HW.out _))).mono ?_; rintro e w4 ⟨rfl, hd4⟩)
     go_roundw
     case rel => exact ⟨i + 1, n2, by go_num, rfl, rfl, by omega, HSm2, ⟨HBB.out.trans (hd4.below.mono HBB.out.size)⟩⟩
     case measure => simp [intOf]; omega
    ·have he60 := (uF n y.up.f2).resolve_left he
     have HNo : aA (eF [] (fI (pre ++ [(some ad, cx, rx)])) = none) := ⟨by
      unfold fI
      rw [List.map_append, List.map_singleton, jN]
      have h1 : lB 0 (rx.map UpR.up) = none := by rw [HSm.out, HD.out]; simp only [lB]; rw [if_neg he]
      have h2 : eS (rx.map UpR.up) = none := by unfold eS; rw [h1]
      rw [h2]
      cases eF [] (List.map (fun x => x.2.2.map UpR.up) pre) <;> rfl⟩
     rw [he60] at HW
     generalize (mJ n y.up.f2).1 = n2 at HW
     clear he he60 HSm HD
     gi_wp2_with (refine ⟨trivial, rfl, ?_⟩; gi_at_call 81; refine (CallsIn.inRound l (callsIn_wide.2 (HW.out _))).mono ?_; rintro e w4 ⟨rfl, hd4⟩; have hB4 := HBB.out.trans (hd4.below.mono HBB.out.size); have hr0 := (HI.out.r0.below hB4); have hr1 := (HI.out.r1.below hB4); have hc0 := hr0.cell; have hf0 := hr0.frozen; have hc1' := hr1.cell; have hf1 := hr1.frozen; have HR0 := aA.mk hr0; have HR1' := aA.mk hr1; have HB4 := aA.mk hB4; clear hr0 hr1 hB4 hd4)
     have hst : dP (fun k => (k = w.heap.size ∨ k = w.heap.size + 1 ∨ k = w.heap.size + 1 + 1) ∨ wl.heap.size + 2 ≤ k) W ((w4.setCell ⟨w.heap.size, 0, none⟩ (.slice none 0 0)).setCell ⟨w.heap.size + 1, 0, none⟩ (.int .i64 60)) :=
      ((dP.of_below HB4.out _).trans (dP.setCell _ ⟨w.heap.size, 0, none⟩ _ (.inl (.inl rfl)))).trans (dP.setCell _ ⟨w.heap.size + 1, 0, none⟩ _ (.inl (.inr (.inl rfl))))
     exact ⟨hst, rfl, HNo.out, (HR0.out.set _).far (by omega) _, (HR1'.out.far (by omega) _).set _, HI.out.B.trans (hst.below HI.out.B.size (fun k hk => by rcases hk with (hk | hk | hk) | hk <;> (have := HLs.out; omega)))⟩
   ·obtain rfl : i = rx.length := by omega
    have hb1 : decide ((rx.length : Int) < (rx.length : Int)) = false := decide_eq_false (by omega)
    have HS0 : aA (lB 0 (rx.map UpR.up) = some n) := ⟨by have := HSm.out; rwa [List.drop_eq_nil_of_le (by simp)] at this⟩
    by_cases hn0 : n = 0
    ·subst hn0
     have HNo : aA (eF [] (fI pre) = eF [] (fI (pre ++ [(Ax, cx, rx)]))) := ⟨by
      unfold fI
      rw [List.map_append, List.map_singleton, jN]
      have h2 : eS (rx.map UpR.up) = some [] := by unfold eS; rw [HS0.out]; rfl
      rw [h2]
      cases eF [] (List.map (fun x => x.2.2.map UpR.up) pre) <;> simp⟩
     clear HSm HS0
     gi_wp2
     exact ⟨dP.of_below HBi.out _, HI.out.below HBi.out HNo.out⟩
    ·have hne : (n != 0) = true := by rw [bne_iff_ne]; exact hn0
     have hne2 : (n == 0) = false := beq_eq_false_iff_ne.2 hn0
     obtain ⟨y, r, rfl⟩ : ∃ y r, rx = y :: r := by
      cases rx with
      | nil => exact absurd rfl HNE.out
      | cons y r => exact ⟨y, r, rfl⟩
     have hx00 : (y :: r)[0]? = some y := rfl
     obtain ⟨ad, hA, hy0, hy1, hy2, hy3⟩ := wZ HCx.out 0 y hx00
     rw [show ad.add (0 * 4) = ad by simp [Addr.add]] at hy0 hy1 hy2 hy3
     subst hA
     have HYW := aA.mk (And.intro hy0 (And.intro hy1 hy2))
     have HADN : aA (ad.block < wl.heap.size + 2) := ⟨by have h1 := HBK.out ad rfl; have h2 := HLs.out; omega⟩
     have HADY : aA (¬ ((ad.block = w.heap.size ∨ ad.block = w.heap.size + 1 ∨ ad.block = w.heap.size + 1 + 1) ∨ wl.heap.size + 2 ≤ ad.block)) := ⟨by have h1 := HBK.out ad rfl; have h2 := HLs.out; omega⟩
     replace hy0 := aH HBi.out hy0
     replace hy1 := aH HBi.out hy1
     replace hy2 := aH HBi.out hy2
     clear hy3
     obtain ⟨A3, c3, o, ho, hbo, hro⟩ := HI.out.out
     have HBOW := aA.mk hbo
     have hbo2 := hbo.below HBi.out
     have hbc := hbo2.cell
     have hbf := hbo2.frozen
     have HBO := aA.mk hbo2
     have HRO := aA.mk (Kd.R_below hro HBi.out)
     have HOO := aA.mk ho
     have hyr := HRW.out y List.mem_cons_self
     have HON : aA (o.length ≤ 1099511627776) := ⟨by
      have h1 := oO (fI pre) [] o ho
      unfold fI at h1
      simp at h1
      omega⟩
     have HCL : aA (Calls Tryz.prog 68 #[.slice y.1.1 y.up.f0.length y.1.2.1] wr.drew fun e w' => ∃ (A : Option Addr) (c : Nat), e = .returned (.slice A y.up.f0.length c) ∧ aA (Kd.R k85 85 w' wr.heap.size (fun _ => True) (.slice A y.up.f0.length c) y.up.f0) ∧ Below wr.heap.size wr w') :=
      ⟨(bP.calls y.1.1 y.1.2.1 y.up.f0 y.up.f0 wr.drew (Kd.C_below y.2.2 ((HI.out.B.trans (HBi.out.mono HI.out.B.size)).drew)) y.2.1 (bP.f_some _ (by omega))).mono fun e w' ⟨v, g1, g2, g3⟩ => by
       obtain ⟨A, c, rfl, _, _⟩ := Kd.R_reads g2
       exact ⟨A, c, g1, ⟨g2⟩, (cG (Below.refl _ _)).trans g3⟩⟩
     have HOP : aA (eF [] (fI (pre ++ [(some ad, cx, y :: r)])) = some (o ++ [⟨y.up.f0, y.up.f1, n⟩])) := ⟨by
      unfold fI at ho ⊢
      rw [List.map_append, List.map_singleton, jN, ho]
      have h2 : eS ((y :: r).map UpR.up) = some [⟨y.up.f0, y.up.f1, n⟩] := by unfold eS; rw [HS0.out]; simp [hn0]
      rw [h2]
      rfl⟩
     have HROl : aA (∀ k, (Value.slice A3 o.length c3).ownBlock = some k → k < W.heap.size) := ⟨Kd.R_lt hro⟩
     clear hyr hx00 hbo hro hbo2 ho HSm
     have hnr : 0 < (y :: r).length := by simp
     generalize hrl : (y :: r).length = nr at *
     have hnri : (0 : Int) < (nr : Int) := by omega
     gi_wp2_with fail
     refine oK (S := fun w' => w'.cell? ad = some (.slice y.1.1 y.up.f0.length y.1.2.1) ∧ w'.cell? ⟨ad.block, ad.off + 1, none⟩ = some (.int .i64 y.up.f1.f0) ∧ w'.cell? ⟨ad.block, ad.off + 2, none⟩ = some (.int .i64 y.up.f1.f1)) (by kernel_rfl) (by kernel_rfl) (fun _ _ h => h) ⟨hy0, hy1, hy2⟩ (fun hHeld => ?_)
     refine take_ (i := 1) (N := some 34) (v := ?_) rfl rfl (by kernel_rfl) (by kernel_rfl) (by kernel_rfl) (fun _ _ _ h => h) (by rfl) ?_ (by assumption) ?_
     rotate_left
     ·intro w' hSw
      obtain ⟨hq0, hq1, hq2⟩ := hSw
      go_simp
      (first | done | with_reducible rfl)
     simp only [Act.put, List.setIfInBounds_toArray, List.set_cons_zero, List.set_cons_succ]
     refine take_ (i := 2) (N := some 35) (v := ?_) rfl rfl (by kernel_rfl) (by kernel_rfl) (by kernel_rfl) (fun _ _ _ h => h) (by rfl) ?_ (by assumption) ?_
     rotate_left
     ·intro w' hSw
      obtain ⟨hq0, hq1, hq2⟩ := hSw
      go_simp
      (first | done | with_reducible rfl)
     simp only [Act.put, List.setIfInBounds_toArray, List.set_cons_zero, List.set_cons_succ]
     refine take_ (i := 3) (N := some 36) (v := ?_) rfl rfl (by kernel_rfl) (by kernel_rfl) (by kernel_rfl) (fun _ _ _ h => h) (by rfl) ?_ (by assumption) ?_
     rotate_left
     ·intro w' hSw
      obtain ⟨hq0, hq1, hq2⟩ := hSw
      go_simp
      (first | done | with_reducible rfl)
     simp only [Act.put, List.setIfInBounds_toArray, List.set_cons_zero, List.set_cons_succ]
     refine take_ (i := 4) (N := some 37) (v := ?_) rfl rfl (by kernel_rfl) (by kernel_rfl) (by kernel_rfl) (fun _ _ _ h => h) (by rfl) ?_ (by assumption) ?_
     rotate_left
     ·intro w' hSw
      obtain ⟨hq0, hq1, hq2⟩ := hSw
      go_simp
      (first | done | with_reducible rfl)
     simp only [Act.put, List.setIfInBounds_toArray, List.set_cons_zero, List.set_cons_succ]
     refine take_ (i := 6) (N := some 39) (v := ?_) rfl rfl (by kernel_rfl) (by kernel_rfl) (by kernel_rfl) (fun _ _ _ h => h) (by rfl) ?_ (by assumption) ?_
     rotate_left
     ·intro w' hSw
      obtain ⟨hq0, hq1, hq2⟩ := hSw
      go_simp
      (first | done | with_reducible rfl)
     simp only [Act.put, List.setIfInBounds_toArray, List.set_cons_zero, List.set_cons_succ]
     refine take_ (i := 7) (N := some 40) (v := ?_) rfl rfl (by kernel_rfl) (by kernel_rfl) (by kernel_rfl) (fun _ _ _ h => h) (by rfl) ?_ (by assumption) ?_
     rotate_left
     ·intro w' hSw
      obtain ⟨hq0, hq1, hq2⟩ := hSw
      go_simp
      (first | done | with_reducible rfl)
     simp only [Act.put, List.setIfInBounds_toArray, List.set_cons_zero, List.set_cons_succ]
     refine take_ (i := 8) (N := some 41) (v := ?_) rfl rfl (by kernel_rfl) (by kernel_rfl) (by kernel_rfl) (fun _ _ _ h => h) (by rfl) ?_ (by assumption) ?_
     rotate_left
     ·intro w' hSw
      obtain ⟨hq0, hq1, hq2⟩ := hSw
      go_simp
      (first | done | with_reducible rfl)
     simp only [Act.put, List.setIfInBounds_toArray, List.set_cons_zero, List.set_cons_succ]
     refine take_ (i := 9) (N := some 42) (v := ?_) rfl rfl (by kernel_rfl) (by kernel_rfl) (by kernel_rfl) (fun _ _ _ h => h) (by rfl) ?_ (by assumption) ?_
     rotate_left
     ·intro w' hSw
      obtain ⟨hq0, hq1, hq2⟩ := hSw
      go_simp
      (first | done | with_reducible rfl)
     simp only [Act.put, List.setIfInBounds_toArray, List.set_cons_zero, List.set_cons_succ]
     refine take_ (i := 10) (N := some 43) (v := ?_) rfl rfl (by kernel_rfl) (by kernel_rfl) (by kernel_rfl) (fun _ _ _ h => h) (by rfl) ?_ (by assumption) ?_
     rotate_left
     ·intro w' hSw
      obtain ⟨hq0, hq1, hq2⟩ := hSw
      go_simp
      (first | done | with_reducible rfl)
     simp only [Act.put, List.setIfInBounds_toArray, List.set_cons_zero, List.set_cons_succ]
     have hbcd : wr.drew.cell? ⟨w.heap.size + 1 + 1, 0, none⟩ = some (.slice A3 o.length c3) := hbc
     refine wpAnyH_ready (rs := [0, 5]) (by kernel_rfl) (by simp) ?_
     refine AllReadyH.cons rfl (fun K hK => ?_) (AllReadyH.cons rfl (fun K hK => ?_) AllReadyH.nil)
     ·go_simp
      refine hK.out _ _ hHeld (fun _ => ?_)
      clear hK K
      refine wpAnyH_ready (rs := [5]) (by kernel_rfl) (by simp) ?_
      refine AllReadyH.cons rfl (fun K hK => ?_) AllReadyH.nil
      go_simp
      refine HCL.out.mono ?_
      rintro e w5 ⟨A5, c5, rfl, HR5, hB5⟩
      have hS5 : w5.cell? ad = some (.slice y.1.1 y.up.f0.length y.1.2.1) ∧ w5.cell? ⟨ad.block, ad.off + 1, none⟩ = some (.int .i64 y.up.f1.f0) ∧ w5.cell? ⟨ad.block, ad.off + 2, none⟩ = some (.int .i64 y.up.f1.f1) := ⟨aH hB5 hy0, aH hB5 hy1, aH hB5 hy2⟩
      have hBW5 : Below (wl.heap.size + 2) W w5 := (HBi.out.trans (hB5.mono HBi.out.size)).mono hN
      have HBW5s : W.heap.size ≤ w5.heap.size := Nat.le_trans HBi.out.size hB5.size
      refine hK.out _ _ hS5 (fun _ => ?_)
      clear hK K
      -- the value is built, laid into a block, appended, stored
      refine wpAnyH_ready (rs := [11]) (by kernel_rfl) (by simp) ?_
      refine AllReadyH.cons rfl (fun K hK => ?_) AllReadyH.nil
      go_simp
      refine hK.out _ _ hS5 (fun _ => ?_)
      clear hK K
      refine wpAnyH_ready (rs := [12]) (by kernel_rfl) (by simp) ?_
      refine AllReadyH.cons rfl (fun K hK => ?_) AllReadyH.nil
      go_simp
      refine hK.out _ _ ⟨aH ((Below.refl _ _).alloc (Nat.le_refl _) _) hS5.1, aH ((Below.refl _ _).alloc (Nat.le_refl _) _) hS5.2.1, aH ((Below.refl _ _).alloc (Nat.le_refl _) _) hS5.2.2⟩ (fun _ => ?_)
      clear hK K
      refine wpAnyH_ready (rs := [13]) (by kernel_rfl) (by simp) ?_
      refine AllReadyH.cons rfl (fun K hK => ?_) AllReadyH.nil
      refine Kd.R_append_step k61 (w0 := W) (wl.heap.size + 2) (by rfl) (.tmp 33) (.tmp 45) 22 61 (.agg #[.slice none 0 0, .int .i64 0, .int .i64 0, .int .i64 0]) 48 rfl Tryz.underlying22 mH rfl (by decide) (by omega) (.slice A3 o.length c3) o ⟨y.up.f0, y.up.f1, n⟩ [.slice A5 y.up.f0.length c5, .int .i64 y.up.f1.f0, .int .i64 y.up.f1.f1, .int .i64 n] (fun _ => True) (fun k => wr.heap.size ≤ k) rfl rfl
       (kU _ _ _ ⟨y.up.f0, y.up.f1, n⟩ (Kd.R_lower (Kd.R_mono (Kd.R_bound HR5.out) (fun k hk => hk.2.1)) (Nat.le_trans hN HBi.out.size)))
       (fun k hk => ⟨trivial, fun e => by have h1 := HROl.out k e.symm; have h2 := HBi.out.size; omega⟩) (fun _ _ => trivial) (Kd.R_below HRO.out hB5) hBW5 (Nat.le_trans hN HBW5s) (by have := HON.out; omega) ?_
      intro v6 w6 ho6 hb6 hg6 hat6
      obtain ⟨A6, c6, rfl, hc6, hC6⟩ := Kd.R_reads ho6
      have hS6 : w6.cell? ad = some (.slice y.1.1 y.up.f0.length y.1.2.1) ∧ w6.cell? ⟨ad.block, ad.off + 1, none⟩ = some (.int .i64 y.up.f1.f0) ∧ w6.cell? ⟨ad.block, ad.off + 2, none⟩ = some (.int .i64 y.up.f1.f1) :=
       ⟨(hb6.cell (p := ad) HADN.out).trans HYW.out.1, (hb6.cell (p := ⟨ad.block, ad.off + 1, none⟩) HADN.out).trans HYW.out.2.1, (hb6.cell (p := ⟨ad.block, ad.off + 2, none⟩) HADN.out).trans HYW.out.2.2⟩
      refine hK.out _ _ hS6 (fun _ => ?_)
      clear hK K
      simp only [Act.put, List.setIfInBounds_toArray, List.set_cons_zero, List.set_cons_succ]
      have hbk : ∀ k, k < W.heap.size → k < wl.heap.size + 2 → w6.heap[k]? = W.heap[k]? := fun k _ h => hb6.block k h
      have hbo6 : Box w6 (w.heap.size + 1 + 1) (.slice A3 o.length c3) 22 := (hb6.block _ (by have := HLs.out; omega)).trans HBOW.out
      have hbc6 := hbo6.cell
      have hbf6 := hbo6.frozen
      have HO6 := aA.mk ho6
      have HB6 := aA.mk hb6
      have HBX6 := aA.mk hbo6
      clear ho6 hb6 hg6 hat6 hbk hbo6 hC6
      refine wpAnyH_ready (rs := [14]) (by kernel_rfl) (by simp) ?_
      refine AllReadyH.cons rfl (fun K hK => ?_) AllReadyH.nil
      go_simp
      have hst : dP (fun k => (k = w.heap.size ∨ k = w.heap.size + 1 ∨ k = w.heap.size + 1 + 1) ∨ wl.heap.size + 2 ≤ k) W (w6.setCell ⟨w.heap.size + 1 + 1, 0, none⟩ (.slice A6 (o.length + 1) c6)) :=
       dP.trans ⟨HB6.out.size, HB6.out.os, HB6.out.tape, HB6.out.output, fun k hk hn => HB6.out.block k (by omega)⟩ (dP.setCell _ ⟨w.heap.size + 1 + 1, 0, none⟩ _ (.inl (.inr (.inr rfl))))
      refine hK.out _ _ ?_ (fun _ => ?_)
      ·exact ⟨hst.cell HYW.out.1 HADY.out, hst.cell (a := ⟨ad.block, ad.off + 1, none⟩) HYW.out.2.1 HADY.out, hst.cell (a := ⟨ad.block, ad.off + 2, none⟩) HYW.out.2.2 HADY.out⟩
      clear hK K
      refine wpAnyH_done (by kernel_rfl) ?_ _
      have hl6 : (o ++ [(⟨y.up.f0, y.up.f1, n⟩ : S61)]).length = o.length + 1 := by simp
      refine ⟨hst, Box.far ((HB6.out.block _ (by have := HLs.out; omega)).trans HI.out.r0) (by omega) _, Box.far ((HB6.out.block _ (by have := HLs.out; omega)).trans HI.out.r1) (by omega) _, ⟨A6, c6, _, HOP.out, by rw [hl6]; exact HBX6.out.set _, ?_⟩, HI.out.B.trans (hst.below HI.out.B.size (fun k hk => by rcases hk with (hk | hk | hk) | hk <;> (have := HLs.out; omega))), mI (fun h => h) HI.out.C hst (fun a2 h2 hx => by have h3 := HALT.out a2 h2; have h4 := HLs.out; rcases hx with (hx | hx | hx) | hx <;> omega)⟩
      exact lC HO6.out (dP.setCell (X := fun k => k = w.heap.size + 1 + 1) _ _ _ rfl) (fun k hk hx => by have := HLs.out; omega)
     ·go_simp
      refine HCL.out.mono ?_
      rintro e w5 ⟨A5, c5, rfl, HR5, hB5⟩
      have hS5 : w5.cell? ad = some (.slice y.1.1 y.up.f0.length y.1.2.1) ∧ w5.cell? ⟨ad.block, ad.off + 1, none⟩ = some (.int .i64 y.up.f1.f0) ∧ w5.cell? ⟨ad.block, ad.off + 2, none⟩ = some (.int .i64 y.up.f1.f1) := ⟨aH hB5 hy0, aH hB5 hy1, aH hB5 hy2⟩
      have hBW5 : Below (wl.heap.size + 2) W w5 := (HBi.out.trans (hB5.mono HBi.out.size)).mono hN
      have HBW5s : W.heap.size ≤ w5.heap.size := Nat.le_trans HBi.out.size hB5.size
      refine hK.out _ _ hS5 (fun _ => ?_)
      clear hK K
      have hbc5 := aH hB5 hbc
      refine take_ (i := 11) (N := some 44) (v := ?_) rfl rfl (by kernel_rfl) (by kernel_rfl) (by kernel_rfl) (fun _ _ _ h => h) (by rfl) ?_ hS5 ?_
      rotate_left
      ·intro w' hSw
       go_simp
       (first | done | with_reducible rfl)
      simp only [Act.put, List.setIfInBounds_toArray, List.set_cons_zero, List.set_cons_succ]
      refine wpAnyH_ready (rs := [0, 12]) (by kernel_rfl) (by simp) ?_
      refine AllReadyH.cons rfl (fun K hK => ?_) (AllReadyH.cons rfl (fun K hK => ?_) AllReadyH.nil)
      ·go_simp
       refine hK.out _ _ hS5 (fun _ => ?_)
       clear hK K
       refine wpAnyH_ready (rs := [12]) (by kernel_rfl) (by simp) ?_
       refine AllReadyH.cons rfl (fun K hK => ?_) AllReadyH.nil
       go_simp
       refine hK.out _ _ ⟨aH ((Below.refl _ _).alloc (Nat.le_refl _) _) hS5.1, aH ((Below.refl _ _).alloc (Nat.le_refl _) _) hS5.2.1, aH ((Below.refl _ _).alloc (Nat.le_refl _) _) hS5.2.2⟩ (fun _ => ?_)
       clear hK K
       refine wpAnyH_ready (rs := [13]) (by kernel_rfl) (by simp) ?_
       refine AllReadyH.cons rfl (fun K hK => ?_) AllReadyH.nil
       refine Kd.R_append_step k61 (w0 := W) (wl.heap.size + 2) (by rfl) (.tmp 33) (.tmp 45) 22 61 (.agg #[.slice none 0 0, .int .i64 0, .int .i64 0, .int .i64 0]) 48 rfl Tryz.underlying22 mH rfl (by decide) (by omega) (.slice A3 o.length c3) o ⟨y.up.f0, y.up.f1, n⟩ [.slice A5 y.up.f0.length c5, .int .i64 y.up.f1.f0, .int .i64 y.up.f1.f1, .int .i64 n] (fun _ => True) (fun k => wr.heap.size ≤ k) rfl rfl
        (kU _ _ _ ⟨y.up.f0, y.up.f1, n⟩ (Kd.R_lower (Kd.R_mono (Kd.R_bound HR5.out) (fun k hk => hk.2.1)) (Nat.le_trans hN HBi.out.size)))
        (fun k hk => ⟨trivial, fun e => by have h1 := HROl.out k e.symm; have h2 := HBi.out.size; omega⟩) (fun _ _ => trivial) (Kd.R_below HRO.out hB5) hBW5 (Nat.le_trans hN HBW5s) (by have := HON.out; omega) ?_
       intro v6 w6 ho6 hb6 hg6 hat6
       obtain ⟨A6, c6, rfl, hc6, hC6⟩ := Kd.R_reads ho6
       have hS6 : w6.cell? ad = some (.slice y.1.1 y.up.f0.length y.1.2.1) ∧ w6.cell? ⟨ad.block, ad.off + 1, none⟩ = some (.int .i64 y.up.f1.f0) ∧ w6.cell? ⟨ad.block, ad.off + 2, none⟩ = some (.int .i64 y.up.f1.f1) :=
        ⟨(hb6.cell (p := ad) HADN.out).trans HYW.out.1, (hb6.cell (p := ⟨ad.block, ad.off + 1, none⟩) HADN.out).trans HYW.out.2.1, (hb6.cell (p := ⟨ad.block, ad.off + 2, none⟩) HADN.out).trans HYW.out.2.2⟩
       refine hK.out _ _ hS6 (fun _ => ?_)
       clear hK K
       simp only [Act.put, List.setIfInBounds_toArray, List.set_cons_zero, List.set_cons_succ]
       have hbk : ∀ k, k < W.heap.size → k < wl.heap.size + 2 → w6.heap[k]? = W.heap[k]? := fun k _ h => hb6.block k h
       have hbo6 : Box w6 (w.heap.size + 1 + 1) (.slice A3 o.length c3) 22 := (hb6.block _ (by have := HLs.out; omega)).trans HBOW.out
       have hbc6 := hbo6.cell
       have hbf6 := hbo6.frozen
       have HO6 := aA.mk ho6
       have HB6 := aA.mk hb6
       have HBX6 := aA.mk hbo6
       clear ho6 hb6 hg6 hat6 hbk hbo6 hC6
       refine wpAnyH_ready (rs := [14]) (by kernel_rfl) (by simp) ?_
       refine AllReadyH.cons rfl (fun K hK => ?_) AllReadyH.nil
       go_simp
       have hst : dP (fun k => (k = w.heap.size ∨ k = w.heap.size + 1 ∨ k = w.heap.size + 1 + 1) ∨ wl.heap.size + 2 ≤ k) W (w6.setCell ⟨w.heap.size + 1 + 1, 0, none⟩ (.slice A6 (o.length + 1) c6)) :=
        dP.trans ⟨HB6.out.size, HB6.out.os, HB6.out.tape, HB6.out.output, fun k hk hn => HB6.out.block k (by omega)⟩ (dP.setCell _ ⟨w.heap.size + 1 + 1, 0, none⟩ _ (.inl (.inr (.inr rfl))))
       refine hK.out _ _ ?_ (fun _ => ?_)
       ·exact ⟨hst.cell HYW.out.1 HADY.out, hst.cell (a := ⟨ad.block, ad.off + 1, none⟩) HYW.out.2.1 HADY.out, hst.cell (a := ⟨ad.block, ad.off + 2, none⟩) HYW.out.2.2 HADY.out⟩
       clear hK K
       refine wpAnyH_done (by kernel_rfl) ?_ _
       have hl6 : (o ++ [(⟨y.up.f0, y.up.f1, n⟩ : S61)]).length = o.length + 1 := by simp
       refine ⟨hst, Box.far ((HB6.out.block _ (by have := HLs.out; omega)).trans HI.out.r0) (by omega) _, Box.far ((HB6.out.block _ (by have := HLs.out; omega)).trans HI.out.r1) (by omega) _, ⟨A6, c6, _, HOP.out, by rw [hl6]; exact HBX6.out.set _, ?_⟩, HI.out.B.trans (hst.below HI.out.B.size (fun k hk => by rcases hk with (hk | hk | hk) | hk <;> (have := HLs.out; omega))), mI (fun h => h) HI.out.C hst (fun a2 h2 hx => by have h3 := HALT.out a2 h2; have h4 := HLs.out; rcases hx with (hx | hx | hx) | hx <;> omega)⟩
       exact lC HO6.out (dP.setCell (X := fun k => k = w.heap.size + 1 + 1) _ _ _ rfl) (fun k hk hx => by have := HLs.out; omega)
      ·go_simp
       have hS5b : (w5.alloc (.cells #[.slice A5 y.up.f0.length c5, .int .i64 y.up.f1.f0, .int .i64 y.up.f1.f1, .int .i64 n] 61)).cell? ad = some (.slice y.1.1 y.up.f0.length y.1.2.1) ∧ (w5.alloc (.cells #[.slice A5 y.up.f0.length c5, .int .i64 y.up.f1.f0, .int .i64 y.up.f1.f1, .int .i64 n] 61)).cell? ⟨ad.block, ad.off + 1, none⟩ = some (.int .i64 y.up.f1.f0) ∧ (w5.alloc (.cells #[.slice A5 y.up.f0.length c5, .int .i64 y.up.f1.f0, .int .i64 y.up.f1.f1, .int .i64 n] 61)).cell? ⟨ad.block, ad.off + 2, none⟩ = some (.int .i64 y.up.f1.f1) := ⟨aH ((Below.refl _ _).alloc (Nat.le_refl _) _) hS5.1, aH ((Below.refl _ _).alloc (Nat.le_refl _) _) hS5.2.1, aH ((Below.refl _ _).alloc (Nat.le_refl _) _) hS5.2.2⟩
       have hbc6b := aH ((Below.refl w5.heap.size w5).alloc (Nat.le_refl _) (.cells #[.slice A5 y.up.f0.length c5, .int .i64 y.up.f1.f0, .int .i64 y.up.f1.f1, .int .i64 n] 61)) hbc5
       refine hK.out _ _ hS5b (fun _ => ?_)
       clear hK K
       refine wpAnyH_ready (rs := [0]) (by kernel_rfl) (by simp) ?_
       refine AllReadyH.cons rfl (fun K hK => ?_) AllReadyH.nil
       go_simp
       refine hK.out _ _ hS5b (fun _ => ?_)
       clear hK K
       refine wpAnyH_ready (rs := [13]) (by kernel_rfl) (by simp) ?_
       refine AllReadyH.cons rfl (fun K hK => ?_) AllReadyH.nil
       refine Kd.R_append_step k61 (w0 := W) (wl.heap.size + 2) (by rfl) (.tmp 33) (.tmp 45) 22 61 (.agg #[.slice none 0 0, .int .i64 0, .int .i64 0, .int .i64 0]) 48 rfl Tryz.underlying22 mH rfl (by decide) (by omega) (.slice A3 o.length c3) o ⟨y.up.f0, y.up.f1, n⟩ [.slice A5 y.up.f0.length c5, .int .i64 y.up.f1.f0, .int .i64 y.up.f1.f1, .int .i64 n] (fun _ => True) (fun k => wr.heap.size ≤ k) rfl rfl
        (kU _ _ _ ⟨y.up.f0, y.up.f1, n⟩ (Kd.R_lower (Kd.R_mono (Kd.R_bound HR5.out) (fun k hk => hk.2.1)) (Nat.le_trans hN HBi.out.size)))
        (fun k hk => ⟨trivial, fun e => by have h1 := HROl.out k e.symm; have h2 := HBi.out.size; omega⟩) (fun _ _ => trivial) (Kd.R_below HRO.out hB5) hBW5 (Nat.le_trans hN HBW5s) (by have := HON.out; omega) ?_
       intro v6 w6 ho6 hb6 hg6 hat6
       obtain ⟨A6, c6, rfl, hc6, hC6⟩ := Kd.R_reads ho6
       have hS6 : w6.cell? ad = some (.slice y.1.1 y.up.f0.length y.1.2.1) ∧ w6.cell? ⟨ad.block, ad.off + 1, none⟩ = some (.int .i64 y.up.f1.f0) ∧ w6.cell? ⟨ad.block, ad.off + 2, none⟩ = some (.int .i64 y.up.f1.f1) :=
        ⟨(hb6.cell (p := ad) HADN.out).trans HYW.out.1, (hb6.cell (p := ⟨ad.block, ad.off + 1, none⟩) HADN.out).trans HYW.out.2.1, (hb6.cell (p := ⟨ad.block, ad.off + 2, none⟩) HADN.out).trans HYW.out.2.2⟩
       refine hK.out _ _ hS6 (fun _ => ?_)
       clear hK K
       simp only [Act.put, List.setIfInBounds_toArray, List.set_cons_zero, List.set_cons_succ]
       have hbk : ∀ k, k < W.heap.size → k < wl.heap.size + 2 → w6.heap[k]? = W.heap[k]? := fun k _ h => hb6.block k h
       have hbo6 : Box w6 (w.heap.size + 1 + 1) (.slice A3 o.length c3) 22 := (hb6.block _ (by have := HLs.out; omega)).trans HBOW.out
       have hbc6 := hbo6.cell
       have hbf6 := hbo6.frozen
       have HO6 := aA.mk ho6
       have HB6 := aA.mk hb6
       have HBX6 := aA.mk hbo6
       clear ho6 hb6 hg6 hat6 hbk hbo6 hC6
       refine wpAnyH_ready (rs := [14]) (by kernel_rfl) (by simp) ?_
       refine AllReadyH.cons rfl (fun K hK => ?_) AllReadyH.nil
       go_simp
       have hst : dP (fun k => (k = w.heap.size ∨ k = w.heap.size + 1 ∨ k = w.heap.size + 1 + 1) ∨ wl.heap.size + 2 ≤ k) W (w6.setCell ⟨w.heap.size + 1 + 1, 0, none⟩ (.slice A6 (o.length + 1) c6)) :=
        dP.trans ⟨HB6.out.size, HB6.out.os, HB6.out.tape, HB6.out.output, fun k hk hn => HB6.out.block k (by omega)⟩ (dP.setCell _ ⟨w.heap.size + 1 + 1, 0, none⟩ _ (.inl (.inr (.inr rfl))))
       refine hK.out _ _ ?_ (fun _ => ?_)
       ·exact ⟨hst.cell HYW.out.1 HADY.out, hst.cell (a := ⟨ad.block, ad.off + 1, none⟩) HYW.out.2.1 HADY.out, hst.cell (a := ⟨ad.block, ad.off + 2, none⟩) HYW.out.2.2 HADY.out⟩
       clear hK K
       refine wpAnyH_done (by kernel_rfl) ?_ _
       have hl6 : (o ++ [(⟨y.up.f0, y.up.f1, n⟩ : S61)]).length = o.length + 1 := by simp
       refine ⟨hst, Box.far ((HB6.out.block _ (by have := HLs.out; omega)).trans HI.out.r0) (by omega) _, Box.far ((HB6.out.block _ (by have := HLs.out; omega)).trans HI.out.r1) (by omega) _, ⟨A6, c6, _, HOP.out, by rw [hl6]; exact HBX6.out.set _, ?_⟩, HI.out.B.trans (hst.below HI.out.B.size (fun k hk => by rcases hk with (hk | hk | hk) | hk <;> (have := HLs.out; omega))), mI (fun h => h) HI.out.C hst (fun a2 h2 hx => by have h3 := HALT.out a2 h2; have h4 := HLs.out; rcases hx with (hx | hx | hx) | hx <;> omega)⟩
       exact lC HO6.out (dP.setCell (X := fun k => k = w.heap.size + 1 + 1) _ _ _ rfl) (fun k hk hx => by have := HLs.out; omega)
 case done =>
  intro W hI hD
  have HI := aA.mk hI
  obtain ⟨A, c, o, ho, hbo, hro⟩ := hI.out
  have hc1' := hbo.cell
  have hc2 := hI.r0.cell
  have hf2 := hI.r0.frozen
  have hc3 := hI.r1.cell
  have hf3 := hI.r1.frozen
  have HO := aA.mk ho
  have HRO := aA.mk hro
  have HD := aA.mk hD
  have HBL := aA.mk (And.intro hs3 (And.intro hsl (And.intro hw1 hBwl)))
  clear hI ho hbo hro hD hB3 hb0 hb1 hb2 hs3 hBl hx1 hx2 hsl hC1 hCl hBwl hAlt HR1 HB1 HS hw1
  gi_wp2
  have hbl := HBL.out
  have hst : dP (fun k => k = w.heap.size ∨ k = w.heap.size + 1) W ((W.setCell ⟨w.heap.size, 0, none⟩ (.slice A o.length c)).setCell ⟨w.heap.size + 1, 0, none⟩ (.int .i64 0)) :=
   (dP.setCell _ ⟨w.heap.size, 0, none⟩ _ (.inl rfl)).trans (dP.setCell _ ⟨w.heap.size + 1, 0, none⟩ _ (.inr rfl))
  have hD2 := (hst.block wl.heap.size (Array.getElem?_eq_some_iff.1 HD.out).1 (by omega)).trans HD.out
  have hst2 := hst.mono (Y := fun k => (k = w.heap.size ∨ k = w.heap.size + 1) ∨ k = wl.heap.size) (fun k _ h => .inl h)
  have hst3 := hst2.trans (dP.put _ wl.heap.size (.deferred none) (.inr rfl))
  refine rC rfl rfl hD2 ((HI.out.r0.set _).far (by omega) _) ((HI.out.r1.far (by omega) _).set _) (by omega) ⟨_, _, _, rfl⟩ ?_
  have hgr : dC l0 = (o, 0) := by
   have h1 := HO.out
   rw [mL, HZ.out] at h1
   have h2 : z.length = l0.length := by
    have h2 := congrArg List.length HZ.out
    rw [List.length_map, gB] at h2
    exact h2
   rw [h2] at h1
   unfold dC
   rw [h1]
  have hres : res = (o, 0) := HRes.out.symm.trans hgr
  subst hres
  exact ⟨_, rfl, Kd.R_lower (lC HRO.out hst3 (fun k hk hx => by rcases hx with (hx | hx) | hx <;> omega)) (by omega), HI.out.B.trans (hst3.below HI.out.B.size (fun k hk => by rcases hk with (hk | hk) | hk <;> omega))⟩
 case stop =>
  rintro c pre x rest W hL ⟨rfl, hX⟩ hD
  have HX := aA.mk hX
  have HD := aA.mk hD
  have HBL := aA.mk (And.intro hs3 (And.intro hsl hw1))
  have HLL := aA.mk hL
  clear hX hD hB3 hb0 hb1 hb2 hs3 hBl hx1 hx2 hsl hC1 hCl hBwl hAlt HR1 HB1 HS hw1 hL
  gi_wp2
  have hbl := HBL.out
  have hst3 : dP (fun k => k = wl.heap.size) W (W.putObj wl.heap.size (.deferred none)) := dP.put _ _ _ rfl
  refine rC rfl rfl HD.out HX.out.r0 HX.out.r1 (by omega) ⟨_, _, _, rfl⟩ ?_
  have hgr : dC l0 = ([], 60) := by
   have h1 := HX.out.none_
   have h2 : eF [] (lD l0.length (eY l0)) = none := by
    have h3 : z.length = l0.length := by
     have h2 := congrArg List.length HZ.out
     rw [List.length_map, gB] at h2
     exact h2
    rw [← h3, ← HZ.out, ← mL z.length A1 c1 z, HLL.out]
    have h4 : ∀ (a b : List (Option Addr × Nat × List (UpR w))), eF [] (fI a) = none → eF [] (fI (a ++ b)) = none := by
     intro a b
     have h5 : ∀ (p q : List (List S61)) (out : List S61), eF out p = none → eF out (p ++ q) = none := by
      intro p
      induction p with
      | nil => intro q out h; cases h
      | cons l p ih =>
       intro q out h
       simp only [List.cons_append, eF] at h ⊢
       cases ho : eS l with
       | none => rfl
       | some x => rw [ho] at h; exact ih q _ h
     intro h
     unfold fI at h ⊢
     rw [List.map_append]
     exact h5 _ _ _ h
    have h6 := h4 (pre ++ [x]) rest h1
    rwa [List.append_assoc] at h6
   unfold dC
   rw [h2]
  have hres : res = ([], 60) := HRes.out.symm.trans hgr
  subst hres
  exact ⟨_, rfl, Kd.R_nil _ _ _ _ _, HX.out.B.trans (hst3.below HX.out.B.size (fun k hk => by omega))⟩
def dG.f (l : List S61) : Option (List S61 × Int) := if l.length ≤ 1099511627776 ∧ ∀ u ∈ l, u.f0.length ≤ 1099511627776 then some (dC l) else none
theorem dG.f_some (l : List S61) (h1 : l.length ≤ 1099511627776) (h2 : ∀ u ∈ l, u.f0.length ≤ 1099511627776) : dG.f l = some (dC l) := if_pos ⟨h1, h2⟩
theorem dG.calls (A0 : Option Addr) (c0 : Nat) (l0 : List S61) (r1 : List S61) (r2 : Int) (w : World) (hr0 : Kd.C k61 w A0 l0.length l0) (hc0 : l0.length ≤ c0) (h : dG.f l0 = some (r1, r2)) :
  Calls Tryz.prog 54 #[.slice A0 l0.length c0] w fun e w' => ∃ v0_ : Value, e = .returned (.tuple #[v0_, .int .i64 r2]) ∧ Kd.R k61 61 w' w.heap.size (fun _ => True) v0_ r1 ∧ Below w.heap.size w w' := by
 unfold dG.f at h
 split at h
 ·rename_i hl
  have hr := Option.some.inj h
  have h1 := sC A0 c0 l0 w hr0 hc0 hl.1 hl.2
  rw [hr] at h1
  exact h1
 ·cases h
end Go.Proofs.YtpflmgbpjhbmnaaGreat.B
end
