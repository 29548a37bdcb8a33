-- PRINTED BY print.sh 35421559b90ae4d0a3588c463048766b98c2df88dd9212a6774a882060cdf62d: not written by this session
import Derived.Test.YtajmbafljncjcaaPStageOverx0
import Derived.Test.YtajmbafljncjcaaPStageOverx1
import Derived.Test.YtajmbafljncjcaaPStageOverx2
import Derived.Test.YtajmbafljncjcaaPStageOverx3
import Derived.Test.YtajmbafljncjcaaPStageOverx4
namespace Go.Proofs.Ytajmbafljncjcaa.PStageOver
open Go.RowKit Go.Proofs.YtajmbafljncjcaaW.PrintWords Go.Proofs.YtajmbafljncjcaaW.PrintLast Go.Proofs.YtajmbafljncjcaaW.PrintMore
attribute [local go_sem] max2_int min2_int max_two min_two max_three min_three max_four min_four   -- for this text's walks alone
set_option linter.unusedVariables false
set_option linter.unusedSimpArgs false

end Go.Proofs.Ytajmbafljncjcaa.PStageOver
