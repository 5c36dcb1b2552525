/- Contracts: math.Sqrt, noise.Root, tarnref2.Root. -/
import Derived.Test.YtbjomkidjccdoaaFloatF
import Derived.Test.YtbjomkidjccdoaaBaseA
import Derived.Deep.QuietTactic
import Derived.BigQuiet
namespace Go.Proofs.Ytbjomkidjccdoaa
open Go.RowKit
attribute [local go_sem ↓] Go.wp_at_zero Go.wp_at_succ

end Go.Proofs.Ytbjomkidjccdoaa
