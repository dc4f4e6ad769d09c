/- The program's BucketNew answers as the reference's, for every configuration of a master. -/
import Derived.Test.YtcbpdhckmccjbaaPFnExactBucketNewx
namespace Go.Proofs.Ytcbpdhckmccjbaa.Pure
open Go.RowKit Go.Proofs.Ytcbpdhckmccjbaa.PFnExactBucketNew Go.Proofs.YtcbpdhckmccjbaaW.PrintWords Go.Proofs.YtcbpdhckmccjbaaW.PrintLast Go.Proofs.YtcbpdhckmccjbaaW.PrintMore
set_option linter.unusedVariables false
set_option linter.unusedSimpArgs false


theorem FnExactBucketNew (a0 : Int) (a1 : Bool) (a2 a3 : Int) (_ : (Lit.int .i64 a0).wf = true) (_ : (Lit.int .i64 a2).wf = true) (_ : (Lit.int .i64 a3).wf = true) :
    laws_FnExactBucketNew.f a0 a1 a2 a3 = some true := by
  unfold laws_FnExactBucketNew.f laws_toMConf.f
  simp only [Option.bind_some]
  have e : mx a3 0 = mx 0 a3 := by unfold mx; split <;> split <;> omega
  unfold spec_BucketNew.f impl_BucketNew.f laws_eqBucket.f
  cases a1 <;> simp [e]

end Go.Proofs.Ytcbpdhckmccjbaa.Pure
