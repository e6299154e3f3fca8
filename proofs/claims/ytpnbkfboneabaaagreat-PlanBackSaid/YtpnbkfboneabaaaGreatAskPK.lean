import Derived.Test.YtpnbkfboneabaaaGreatOB
import Derived.Test.YtpnbkfboneabaaaGreatGF
namespace Go.Proofs.YtpnbkfboneabaaaGreat
open Go.RowKit
theorem fourB_inj {a b:Nat} (ha:a<4294967296) (hb:b<4294967296) (h:fourB a=fourB b):a=b:=by
 unfold fourB at h
 injection h with h1 h
 injection h with h2 h
 injection h with h3 h
 injection h with h4 h
 omega
end Go.Proofs.YtpnbkfboneabaaaGreat
