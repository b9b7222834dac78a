/- What is asked of a wrapped join. -/
import Derived.Test.YtpflmgbpjhbmnaaDoorFJoin4
import Derived.Test.YtpflmgbpjhbmnaaDoorFLive
namespace Go.Proofs.YtpflmgbpjhbmnaaDoor.F
open Go.RowKit Go.Extern.Stop Go.Stop Go.Extern Go.Proofs.YtpflmgbpjhbmnaaDoorW.PrintWords Go.Proofs.YtpflmgbpjhbmnaaDoorW.PrintLast Go.Proofs.YtpflmgbpjhbmnaaDoorW.PrintMore
set_option linter.unusedVariables false
set_option linter.unusedSimpArgs false
set_option maxRecDepth 100000

theorem je_all (op : ByteArray) (b : Nat) (l : List Int) (w : World) (hJ : JoinAt w b l) : AllSays (fail op (jv b)) l w :=
  all_fail op _ _ l w (fun W hW => all_join b l W (hJ.below hW (Nat.le_refl _)))
theorem je_code (op : ByteArray) (b : Nat) (n : Int) (r : List Int) (w : World) (hJ : JoinAt w b (n :: r)) (hL : Laid w) : Calls Tryd.prog 9 #[fail op (jv b)] w fun e w' => e = .returned (.int .i64 n) ∧ Below w.heap.size w w' :=
  code_some _ _ n w w hL (fun a t old W hW ha ht hf => as_join a t old op b n r W (hJ.below hW (Nat.le_refl _)) ha ht hf) (Below.refl _ _)
theorem je_is (op : ByteArray) (b : Nat) (m : Int) (l : List Int) (w : World) (hJ : JoinAt w b l) : Calls Tryd.prog 13 #[fail op (jv b), .int .i64 m] w fun e w' => e = .returned (.bool (l.any (· == m))) ∧ Below w.heap.size w w' :=
  errIs_some _ _ m _ w w (fun W hW => is_join op b m l W (hJ.below hW (Nat.le_refl _))) (Below.refl _ _)
theorem je_ops (op : ByteArray) (b : Nat) (w : World) : Calls Tryd.prog 10 #[fail op (jv b)] w fun e w' => ∃ (A : Option Addr) (c : Nat), e = .returned (.slice A 1 c) ∧ Below w.heap.size w w' := by
  refine (ops_chain [op] (jv b) (End.join _) w (by simp)).mono ?_
  rintro e w' ⟨v, rfl, hR, hB⟩
  obtain ⟨A, c, rfl, hc, hC⟩ := Kd.R_reads hR
  exact ⟨A, c, rfl, hB⟩
end Go.Proofs.YtpflmgbpjhbmnaaDoor.F
