import Derived.Test.YtecaolkbllbokaaMT14
import Derived.Test.YtecaolkbllbokaaMT00
import Derived.Test.YtecaolkbllbokaaMT01
import Derived.Deep.QuietTactic
import Derived.BigQuiet
import Derived.Test.YtecaolkbllbokaaMT02
import Derived.Test.YtecaolkbllbokaaMT03
set_option linter.unusedSimpArgs false
set_option linter.unusedVariables false
set_option maxRecDepth 100000
set_option maxHeartbeats 16000000
namespace Go.Proofs.Ytecaolkbllbokaa.TG
open Go.RowKit Go.Great
end Go.Proofs.Ytecaolkbllbokaa.TG
