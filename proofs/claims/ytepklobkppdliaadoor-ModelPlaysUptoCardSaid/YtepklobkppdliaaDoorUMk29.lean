/- The model: ModelNext answers true. -/
import Derived.Test.YtepklobkppdliaaDoorURn6
import Derived.Test.YtepklobkppdliaaDoorUAg
import Derived.Deep.LoopGhost
namespace Go.Proofs.YtepklobkppdliaaDoor.Md
open Go.RowKit Go.Proofs.YtepklobkppdliaaDoorW.PrintWords Go.Proofs.YtepklobkppdliaaDoorW.PrintLast Go.Proofs.YtepklobkppdliaaDoorW.PrintMore Go.Proofs.YtepklobkppdliaaDoor.Lib Go.Proofs.YtepklobkppdliaaDoor.Open
theorem eqA38 (d : Nat) (w : World) (x0 y0 : ByteArray) (x1 y1 x2 y2 : Int) (x3 y3 : ByteArray) (x4 y4 : Int) :
    (Op.equalIn (d + 2) 38 (.agg #[.string x0, .int .i64 x1, .int .i64 x2, .string x3, .int .i64 x4]) (.agg #[.string y0, .int .i64 y1, .int .i64 y2, .string y3, .int .i64 y4])).run Tryd.prog w = .ok (x0.toList == y0.toList && (x1 == y1 && (x2 == y2 && (x3.toList == y3.toList && (x4 == y4))))) w := by
  refine eqA_of Tryd.underlying38 (by kernel_rfl) ?_
  refine eqf_cons (by rfl) (by go_simp; rfl) (by go_simp; rfl) (by go_simp) ?_
  refine eqf_cons (by rfl) (by go_simp; rfl) (by go_simp; rfl) (by go_simp) ?_
  refine eqf_cons (by rfl) (by go_simp; rfl) (by go_simp; rfl) (by go_simp) ?_
  refine eqf_cons (by rfl) (by go_simp; rfl) (by go_simp; rfl) (by go_simp) ?_
  exact eqf_last (by rfl) (by go_simp; rfl) (by go_simp; rfl) (by go_simp)
theorem eq30 (w : World) : (Op.equalIn 10000 30 (.agg #[.int .i64 0, .int .i64 0, .int .i64 0, .int .i64 0]) (.agg #[.int .i64 0, .int .i64 0, .int .i64 0, .int .i64 0])).run Tryd.prog w = .ok true w := by kernel_rfl
theorem eq38 (x : Ent) (w : World) : (Op.equalIn 10000 38 (.agg x.c) (.agg x.c)).run Tryd.prog w = .ok true w := by
  have h := eqA38 9998 w x.key x.key x.fl x.fl x.dl x.dl x.val x.val x.cas x.cas
  simp only [beq_self_eq_true, Bool.and_self] at h
  exact h
end Go.Proofs.YtepklobkppdliaaDoor.Md
