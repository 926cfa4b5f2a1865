/- Lean functions with the same answers as the Go functions that one law reaches, and for each a proof that its call comes to just these answers. No condition. Written by pr.py, a program of this session. -/
import Derived.Test.YtcoceoplnehmcaaPFnStretchesx0
namespace Go.Proofs.Ytcoceoplnehmcaa.PFnStretches
open Go.RowKit Go.Proofs.YtcoceoplnehmcaaW.PrintWords Go.Proofs.YtcoceoplnehmcaaW.PrintLast Go.Proofs.YtcoceoplnehmcaaW.PrintMore
attribute [local go_sem] max2_int min2_int max_two min_two max_three min_three max_four min_four   -- for this text's walks alone
set_option linter.unusedVariables false
set_option linter.unusedSimpArgs false

theorem eqA47 (d : Nat) (w : World) (x0 y0 : Int) (x1 y1 : Int) (x2 y2 : Int) :
    (Op.equalIn (d + 2) 47 (.agg #[.int .i64 x0, .int .i64 x1, .int .i64 x2]) (.agg #[.int .i64 y0, .int .i64 y1, .int .i64 y2])).run Try.prog w = .ok (x0 == y0 && (x1 == y1 && (x2 == y2))) w := by
  refine eqA_of Try.underlying47 (by kernel_rfl) ?_
  refine eqf_cons (by rfl) (by go_simp; rfl) (by go_simp; rfl) (by go_simp) ?_
  refine eqf_cons (by rfl) (by go_simp; rfl) (by go_simp; rfl) (by go_simp) ?_
  exact eqf_last (by rfl) (by go_simp; rfl) (by go_simp; rfl) (by go_simp)
end Go.Proofs.Ytcoceoplnehmcaa.PFnStretches
