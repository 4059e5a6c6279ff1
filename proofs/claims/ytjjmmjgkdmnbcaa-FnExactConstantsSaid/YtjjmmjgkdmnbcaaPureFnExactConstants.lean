/- What is proved: the law FnExactConstants answers true. No condition. -/
import Derived.Test.YtjjmmjgkdmnbcaaPFnExactConstantsx1
namespace Go.Proofs.Ytjjmmjgkdmnbcaa.Pure
open Go.RowKit Go.Proofs.Ytjjmmjgkdmnbcaa.PFnExactConstants Go.Proofs.YtjjmmjgkdmnbcaaW.PrintWords Go.Proofs.YtjjmmjgkdmnbcaaW.PrintLast

theorem FnExactConstants : laws_FnExactConstants.Pure := rfl

end Go.Proofs.Ytjjmmjgkdmnbcaa.Pure
