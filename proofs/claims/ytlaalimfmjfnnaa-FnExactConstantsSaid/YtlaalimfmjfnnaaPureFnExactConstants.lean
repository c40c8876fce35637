/- The exported constants of the program are the document's: the law's pure statement (no condition). -/
import Derived.Test.YtlaalimfmjfnnaaPFnExactConstantsx1
namespace Go.Proofs.Ytlaalimfmjfnnaa.Pure
open Go.RowKit Go.Proofs.Ytlaalimfmjfnnaa.PFnExactConstants Go.Proofs.YtlaalimfmjfnnaaW.PrintWords Go.Proofs.YtlaalimfmjfnnaaW.PrintLast

theorem FnExactConstants : laws_FnExactConstants.Pure := by
  unfold laws_FnExactConstants.Pure laws_FnExactConstants.f
  rfl

end Go.Proofs.Ytlaalimfmjfnnaa.Pure
