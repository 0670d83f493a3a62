import Derived.Test.YtbpojmneffngoaaG1z
set_option linter.unusedVariables false
set_option linter.unusedSimpArgs false
namespace Go.Abs.GF
end Go.Abs.GF
