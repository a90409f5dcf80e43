/- The program's constants are the reference's constants: the law FnExactConstants answers true. It has no conditions. -/
import Derived.Test.YtoicfnhpjfgjmaaPFnExactConstantsx1
namespace Go.Proofs.Ytoicfnhpjfgjmaa.Pure
open Go.RowKit Go.Proofs.Ytoicfnhpjfgjmaa.PFnExactConstants Go.Proofs.YtoicfnhpjfgjmaaW.PrintWords Go.Proofs.YtoicfnhpjfgjmaaW.PrintLast

theorem FnExactConstants : laws_FnExactConstants.Pure := rfl

end Go.Proofs.Ytoicfnhpjfgjmaa.Pure
