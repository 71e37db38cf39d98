/- NewDesk of the program and of the reference answer the same. -/
import Derived.Test.YtbeinhdoggfgkaaPFnExactNewDeskx0
import Derived.Test.YtbeinhdoggfgkaaPFnExactNewDeskx1
import Derived.Test.YtbeinhdoggfgkaaPFnExactNewDeskx2
import Derived.Test.YtbeinhdoggfgkaaLib
namespace Go.Proofs.Ytbeinhdoggfgkaa.Pure
open Go.RowKit Go.Proofs.Ytbeinhdoggfgkaa.PFnExactNewDesk Go.Proofs.YtbeinhdoggfgkaaW.PrintWords Go.Proofs.YtbeinhdoggfgkaaW.PrintLast Go.Proofs.Ytbeinhdoggfgkaa.L
set_option linter.unusedVariables false
set_option linter.unusedSimpArgs false


theorem FnExactNewDesk : laws_FnExactNewDesk.Pure := ⟨60, by decide +kernel⟩

end Go.Proofs.Ytbeinhdoggfgkaa.Pure
