/-
  aes.cipher's once, and its keys: what is needed of sync.Once.
-/
import Derived.Test.YtgcfaeipiiagdaaAesE
import Derived.Test.YtgcfaeipiiagdaaOnce
