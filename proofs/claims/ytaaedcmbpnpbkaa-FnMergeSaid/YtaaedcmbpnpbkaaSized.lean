/- The bound on a slice argument's length under the short name by which the printed rows call it. Conditions: those of the lemma itself. -/
import Derived.Test.YtaaedcmbpnpbkaaWSized
namespace Go.Proofs.Ytaaedcmbpnpbkaa.PrintWords
theorem sized_ints : type_of% @Go.Proofs.YtaaedcmbpnpbkaaW.PrintWords.sized_ints := @Go.Proofs.YtaaedcmbpnpbkaaW.PrintWords.sized_ints
end Go.Proofs.Ytaaedcmbpnpbkaa.PrintWords
