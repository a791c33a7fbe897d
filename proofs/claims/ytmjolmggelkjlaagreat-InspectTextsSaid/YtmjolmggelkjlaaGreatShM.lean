/- What the third form makes of the functions: all of them stand in one text. -/
import Derived.Test.YtmjolmggelkjlaaGreatShL
namespace Go.Proofs.YtmjolmggelkjlaaGreat
set_option linter.unusedVariables false
set_option linter.unusedSimpArgs false

end Go.Proofs.YtmjolmggelkjlaaGreat
