import Derived.Test.YtpnbkfboneabaaaGreatIB
import Derived.Deep.QuietTactic
import Derived.BigQuiet
import Derived.Test.YtpnbkfboneabaaaGreatOA
import Derived.Test.YtpnbkfboneabaaaGreatGF
set_option maxRecDepth 100000
namespace Go.Proofs.YtpnbkfboneabaaaGreat
open Go.RowKit
theorem refTapeRight_any (tb:ByteArray) (p:Nat) (h1:tb.size≤65536) (h2:p≤tb.size) (w:World):
 Calls Tryz.prog 65 #[.agg #[.string tb,.int .i64 (p:Int)]] w fun e w'=>e= .returned (.bool true)∧Below w.heap.size w w':=by
 have hb0:Below w.heap.size w (w.alloc (.cells #[.string tb,.int .i64 (p:Int)] 23)):=(Below.refl _ w).alloc (Nat.le_refl _) _
 have i1:((tb.size:Int)≤65536):=by omega
 have i2:((p:Int)≤tb.size):=by omega
 go_enter Tryz.func65,Tryz.ntmps65
 go_wp2
 go_ret
 exact⟨rfl,hb0⟩
theorem Below.trans_drewN {B:Nat} {w w1:World} (h:Below B w w1) (n:Nat):Below B w (w1.drewN n):=⟨h.os,h.tape,h.output,h.size,h.block⟩
end Go.Proofs.YtpnbkfboneabaaaGreat
