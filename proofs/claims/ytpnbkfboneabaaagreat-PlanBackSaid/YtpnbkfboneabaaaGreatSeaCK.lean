import Derived.Test.YtpnbkfboneabaaaGreatMacCK
import Derived.Test.YtpnbkfboneabaaaGreatSeaAK
import Derived.Test.YtpnbkfboneabaaaGreatSeaBK
import Derived.Test.YtpnbkfboneabaaaGreatStrHK
import Derived.Test.YtpnbkfboneabaaaGreatGF
import Derived.Test.YtpnbkfboneabaaaGreatGH
set_option maxRecDepth 100000
set_option maxHeartbeats 2000000
namespace Go.Proofs.YtpnbkfboneabaaaGreat
open Go.RowKit
def Seal.sStream:ByteArray:=⟨#[115,116,114,101,97,109]⟩
def Seal.sTag:ByteArray:=⟨#[116,97,103]⟩
def Seal.k1 [Sha.Words] (key:ByteArray):ByteArray:=Mac.derive key Seal.sStream 32
def Seal.k2 [Sha.Words] (key:ByteArray):ByteArray:=Mac.derive key Seal.sTag 32
theorem Seal.k1_size [Sha.Words] (key:ByteArray):(Seal.k1 key).size=32:=Mac.derive_size _ _ _
theorem Seal.k2_size [Sha.Words] (key:ByteArray):(Seal.k2 key).size=32:=Mac.derive_size _ _ _
theorem sealKeys_any [Sha.Words] (key:ByteArray) (hk:key.size=32) (w:World) (hR:Sha.RoundIn w):
 Calls Tryz.prog 222 #[.string key] w fun e w'=>e= .returned (.tuple #[.string (Seal.k1 key),.string (Seal.k2 key),.int .i64 0])∧Keep (fun k=>k<w.heap.size) w w':=by
 have h0:=hR.pos
 have HRd:=Lib.hid hR
 clear hR
 have hD1:=fun w hR=>Derive_any key Seal.sStream (by omega) (by decide) 32 (by decide) w hR
 have hD2:=fun w hR=>Derive_any key Seal.sTag (by omega) (by decide) 32 (by decide) w hR
 change ∀ w,_→Calls _ _ _ _ (fun e w'=>e= .returned (.tuple #[.string (Seal.k1 key),.int .i64 0])∧_) at hD1
 change ∀ w,_→Calls _ _ _ _ (fun e w'=>e= .returned (.tuple #[.string (Seal.k2 key),.int .i64 0])∧_) at hD2
 have HD1:=Lib.hid hD1
 have HD2:=Lib.hid hD2
 clear hD1 hD2
 generalize Seal.k1 key=a at*
 generalize Seal.k2 key=b at*
 go_enter Tryz.func222,Tryz.ntmps222
 go_wp2_with fail
 refine(HD1.out _ HRd.out).mono ?_
 rintro e w1 ⟨rfl,hk1⟩
 have Hk1:=Lib.hid hk1
 clear hk1
 go_wp2_with fail
 refine(HD2.out _ (HRd.out.keep Hk1.out h0)).mono ?_
 rintro e w2 ⟨rfl,hk2⟩
 have Hk2:=Lib.hid (Hk1.out.trans (hk2.mono fun k (hk:k<w.heap.size) _=>by have:=Hk1.out.size;omega))
 clear hk2 Hk1
 go_wp2
 refine⟨rfl,.tuple #[.string a,.string b,.int .i64 0],?_,rfl,Hk2.out⟩
 simp [results,Tryz.f222,go_sem]
end Go.Proofs.YtpnbkfboneabaaaGreat
