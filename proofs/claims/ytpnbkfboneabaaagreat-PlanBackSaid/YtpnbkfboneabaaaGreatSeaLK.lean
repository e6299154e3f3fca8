import Derived.Test.YtpnbkfboneabaaaGreatSeaHK
import Derived.Test.YtpnbkfboneabaaaGreatGF
namespace Go.Proofs.YtpnbkfboneabaaaGreat
open Go.RowKit
namespace Str
theorem ext {a b:List Nat} (hl:a.length=b.length) (h:∀ i,i<a.length→a.getD i 0=b.getD i 0):a=b:=by
 apply List.ext_getElem hl
 intro i h1 h2
 have:=h i h1
 simpa [List.getD_eq_getElem?_getD,h1,h2] using this
section
variable {F:List Nat→List Nat} (hF:∀ c,c.length=16→(F c).length=16) (C:List Nat)
include hF
end
theorem xor_xor {a b:List Nat}:xor (xor a b) b=a:=by
 refine ext (by rw [xor_length,xor_length]) fun i hi=> ?_
 rw [xor_length,xor_length] at hi
 rw [xor_get _ _ (by rw [xor_length];exact hi),xor_get _ _ hi,Nat.xor_assoc,Nat.xor_self,Nat.xor_zero]
end Str
theorem pick_nat (m:Int) (k:Nat) (hk:0<k):∃ x:Nat,pickOf m (k:Int)=(x:Int)∧x<k:=by
 have h:=pickOf_range (c:=m) (n:=(k:Int)) (by omega)
 exact⟨(pickOf m (k:Int)).toNat,by omega,by omega⟩
theorem Seal.mix_mix {k:ByteArray} (hk:k.size=32) (nonce t:ByteArray):Seal.mix k nonce (Seal.mix k nonce t)=t:=by
 have hs:(strOf (Str.xor (bytesOf t) (Str.of k nonce t.size))).size=t.size:=by rw [strOf_size,Str.xor_length,bytesOf_length]
 unfold Seal.mix
 rw [hs,bytesOf_strOf (Str.xor_all (bytesOf_all t) (Str.of_all (n:=8) hk nonce _)),Str.xor_xor,strOf_bytesOf]
theorem text_join (a b:ByteArray):(a++b).extract 0 a.size=a∧(a++b).extract a.size (a++b).size=b:=by
 constructor
 · exact ByteArray.extract_append_eq_left rfl
 · exact ByteArray.extract_append_eq_right rfl (by rw [ByteArray.size_append])
section
variable {key:ByteArray} (nonce along text:ByteArray)
theorem Seal.box_lo [Sha.Words]:(Seal.box key nonce along text).extract 0 ((Seal.box key nonce along text).size-16)=Seal.mix (Seal.k1 key) nonce text:=by
 rw [Seal.box_size,Nat.add_sub_cancel]
 have h:=(text_join (Seal.mix (Seal.k1 key) nonce text) (Seal.tag (Seal.k2 key) nonce along (Seal.mix (Seal.k1 key) nonce text))).1
 rwa [Seal.mix_size] at h
theorem Seal.box_hi [Sha.Words]:(Seal.box key nonce along text).extract ((Seal.box key nonce along text).size-16) (Seal.box key nonce along text).size=Seal.tag (Seal.k2 key) nonce along (Seal.mix (Seal.k1 key) nonce text):=by
 rw [Seal.box_size,Nat.add_sub_cancel]
 have h:=(text_join (Seal.mix (Seal.k1 key) nonce text) (Seal.tag (Seal.k2 key) nonce along (Seal.mix (Seal.k1 key) nonce text))).2
 rwa [ByteArray.size_append,Seal.mix_size,Seal.tag_size] at h
end
def Seal.opens [Sha.Words] (key nonce along box:ByteArray):ByteArray × Int:=
 if box.size<16 then (⟨#[]⟩,10)
 else if Seal.tag (Seal.k2 key) nonce along (box.extract 0 (box.size-16))=box.extract (box.size-16) box.size then (Seal.mix (Seal.k1 key) nonce (box.extract 0 (box.size-16)),0)
 else (⟨#[]⟩,11)
theorem Seal.opens_box [Sha.Words] (key nonce along text:ByteArray):Seal.opens key nonce along (Seal.box key nonce along text)=(text,0):=by
 unfold Seal.opens
 rw [if_neg (by rw [Seal.box_size];omega),Seal.box_lo,Seal.box_hi,if_pos rfl,Seal.mix_mix (Seal.k1_size key)]
theorem Seal_all [Sha.Words] (key nonce along text:ByteArray) (hk:key.size=32) (hn:nonce.size=16) (hw:along.size≤4096) (ht:text.size≤65536) (w:World) (hR:Sha.RoundIn w):
 Calls Tryz.prog 195 #[.string key,.string nonce,.string along,.string text] w fun e w'=>e= .returned (.tuple #[.string (Seal.box key nonce along text),.int .i64 0])∧Below w.heap.size w w':=
 (Seal_any key nonce along text hk hn hw ht w hR).mono fun _ _ h=>⟨h.1,h.2.lower⟩
theorem Open_all [Sha.Words] (key nonce along box:ByteArray) (hk:key.size=32) (hn:nonce.size=16) (hw:along.size≤4096) (hb:box.size≤65552) (w:World) (hR:Sha.RoundIn w):
 Calls Tryz.prog 202 #[.string key,.string nonce,.string along,.string box] w fun e w'=>e= .returned (.tuple #[.string (Seal.opens key nonce along box).1,.int .i64 (Seal.opens key nonce along box).2])∧Below w.heap.size w w':=by
 unfold Seal.opens
 by_cases h1:box.size<16
 · rw [if_pos h1]
   exact(Open_short key nonce along box hk hn hw h1 w hR).mono fun _ _ h=>⟨h.1,h.2.lower⟩
 · rw [if_neg h1]
   refine(Open_any key nonce along box hk hn hw (by omega) hb w hR).mono fun e w' h=> ?_
   obtain⟨⟨h2,he⟩ | ⟨h2,he⟩,hk2⟩:=h
   · rw [if_pos h2];exact⟨he,hk2.lower⟩
   · rw [if_neg h2];exact⟨he,hk2.lower⟩
end Go.Proofs.YtpnbkfboneabaaaGreat
