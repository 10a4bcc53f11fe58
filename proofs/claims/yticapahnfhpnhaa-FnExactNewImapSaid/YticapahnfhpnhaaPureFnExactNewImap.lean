/- A new session that reads mail, as the program makes it, is the one that the reference makes: field by field; there are no conditions. -/
import Derived.Test.YticapahnfhpnhaaPFnExactNewImapx1
namespace Go.Proofs.Yticapahnfhpnhaa.Pure
open Go.RowKit Go.Proofs.Yticapahnfhpnhaa.PFnExactNewImap Go.Proofs.YticapahnfhpnhaaW.PrintWords Go.Proofs.YticapahnfhpnhaaW.PrintLast

theorem FnExactNewImap : laws_FnExactNewImap.Pure := by
  unfold laws_FnExactNewImap.Pure
  simp [laws_FnExactNewImap.f, spec_NewImap.f, impl_NewImap.f, laws_eqImap.f]

end Go.Proofs.Yticapahnfhpnhaa.Pure
