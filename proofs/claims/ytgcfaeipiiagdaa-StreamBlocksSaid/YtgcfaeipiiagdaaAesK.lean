/-
  The contract of aes.cipher's method decrypt.
-/
import Derived.Test.YtgcfaeipiiagdaaAesJ
namespace Go.Proofs.Ytgcfaeipiiagdaa
open Go.RowKit

end Go.Proofs.Ytgcfaeipiiagdaa
