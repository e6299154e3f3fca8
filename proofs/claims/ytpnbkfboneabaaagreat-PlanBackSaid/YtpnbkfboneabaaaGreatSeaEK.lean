import Derived.Test.YtpnbkfboneabaaaGreatSeaDK
import Derived.Test.YtpnbkfboneabaaaGreatGF
set_option maxRecDepth 100000
set_option maxHeartbeats 2000000
namespace Go.Proofs.YtpnbkfboneabaaaGreat
open Go.RowKit
def Str.of (k c:ByteArray) (m:Nat):List Nat:=Str.keys (Aes.enc (bytesOf k)) (bytesOf c) m
theorem Str.block_enc (n:Nat) (k:ByteArray) (hk:k.size=4*n):Str.Block (Aes.enc (bytesOf k)):=fun c _ ha=>Aes.enc_length (n:=n) (by rw [bytesOf_length,hk]) (bytesOf_all k) ha
theorem Str.encs_len:∀(R:List (List Nat × Bool)) (s:List Nat),s.length=16→(R.foldl Aes.encStep s).length=16
 | [],_,hs=>hs
 | x::R,s,_=>Str.encs_len R _ (Aes.encStep_length s x)
theorem Str.enc_len (k c:List Nat):(Aes.enc k c).length=16:=Str.encs_len _ _ (Aes.add_length _ _)
theorem Str.of_all {n:Nat} {k:ByteArray} (hk:k.size=4*n) (c:ByteArray) (m:Nat):Bs.All (Str.of k c m):=Str.keys_all (Str.block_enc n k hk) _ _
theorem Str.good_of {n:Nat} (hn:n=4∨n=8) {k:ByteArray} (hk:k.size=4*n):Str.good k=true:=decide_eq_true (by omega)
theorem Keep.lower {w w':World} (h:Keep (fun k=>k<w.heap.size) w w'):Below w.heap.size w w':=⟨h.os,h.tape,h.output,h.size,fun k hk=>h.block k hk hk⟩
theorem Xor_k (n:Nat) (hn:n=4∨n=8) (k c s:ByteArray) (hk:k.size=4*n) (hc:c.size=16) (hs:s.size≤65536) (w:World):
 Calls Tryz.prog 223 #[.string k,.string c,.string s] w fun e w'=>e= .returned (.tuple #[.string (strOf (Str.xor (bytesOf s) (Str.of k c s.size))),.int .i64 0])∧Below w.heap.size w w':=
 (Xor_any k c s (Str.good_of hn hk) (Str.told k) hc hs _ (Str.enc k (Str.good_of hn hk)) (fun _ _=>Str.enc_len _ _) (Str.block_enc n k hk) w).mono fun _ _ h=>⟨h.1,h.2.lower⟩
def Seal.mix (k1 nonce text:ByteArray):ByteArray:=strOf (Str.xor (bytesOf text) (Str.of k1 nonce text.size))
theorem Seal.mix_size (k1 nonce text:ByteArray):(Seal.mix k1 nonce text).size=text.size:=by
 unfold Seal.mix
 rw [strOf_size,Str.xor_length,bytesOf_length]
theorem mixed_any (g:Nat) (k1 k2 nonce along text:ByteArray) (hk:k1.size=32) (hn:nonce.size=16) (ht:text.size≤65536) (w:World) (hr:Row w g 285 #[.string k1,.string k2,.string nonce,.string along]):
 Calls Tryz.prog 205 #[.pointer (some ⟨g,0,none⟩),.string text] w fun e w'=>e= .returned (.string (Seal.mix k1 nonce text))∧Keep (fun k=>k<w.heap.size) w w':=by
 have hg:=hr.lt
 have c0:w.cell? ⟨g,0,none⟩=some (.string k1):=hr.cell 0
 have c2:w.cell? ⟨g,2,none⟩=some (.string nonce):=hr.cell 2
 have hX:=fun w=>Xor_k 8 (.inr rfl) k1 nonce text hk hn ht w
 have HX:=Lib.hid hX
 clear hr hX
 unfold Seal.mix
 generalize strOf (Str.xor (bytesOf text) (Str.of k1 nonce text.size))=T at*
 go_enter Tryz.func205,Tryz.ntmps205
 go_wp2_with fail
 have hmx:Tryz.prog.follows .mixedOrders=true:=by kernel_rfl
 refine wp_only ?_
 go_region_with (go_at_call 223;refine(HX.out _).mono ?_;rintro e w1 ⟨rfl,hb1⟩;have Hk1:Hid (Keep (fun k=>k<w.heap.size) w w1):=Lib.hid (((Keep.refl _ w).drew).trans (Keep.below hb1)))
 all_goals
  dsimp only [OnlyQ]
  go_wp2_with fail
  refine(must_true _ _).mono ?_
  rintro e w2 ⟨rfl,rfl⟩
  go_wp2
  go_ret
  exact⟨rfl,Hk1.out⟩
end Go.Proofs.YtpnbkfboneabaaaGreat
