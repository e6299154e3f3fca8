import Derived.Test.YtpnbkfboneabaaaGreatGA
import Derived.Laws.Bits64b
set_option maxRecDepth 100000
set_option maxHeartbeats 1000000
namespace Go.Proofs.YtpnbkfboneabaaaGreat
open Go.RowKit
def Sha.rot (n:Nat) (x:Int):Int:=bits .or .u32 (x*2 ^ (32-n)%4294967296) (x / 2 ^ n)
theorem Sha.turn:∀ n:Fin 32,0<n.val→bits .and .u64 (IntKind.u64.wrap (-((n.val:Nat):Int))) 31=((32-n.val:Nat):Int):=by decide +kernel
theorem rotateLeft32_any (n:Nat) (hn:0<n∧n<32) (x:Int) (w:World):
 Calls Tryz.prog 263 #[.int .u32 x,.int .i64 (-(n:Int))] w fun e w'=>e= .returned (.int .u32 (Sha.rot n x))∧w'=w:=by
 obtain⟨s,hs,hs1,hs2⟩:∃ s:Nat,bits .and .u64 (IntKind.u64.wrap (-(n:Int))) 31=(s:Int)∧s≤31∧Hid (s=32-n):=⟨32-n,Sha.turn ⟨n,hn.2⟩ hn.1,by omega,Lib.hid rfl⟩
 go_enter Tryz.func263,Tryz.ntmps263
 go_wp2
 go_ret
 refine⟨?_,rfl⟩
 have e:32-(32-n)=n:=by omega
 rw [hs2.out,e]
 rfl
theorem right_any (n:Nat) (hn:0<n∧n<32) (x:Int) (w:World):
 Calls Tryz.prog 250 #[.int .i64 (n:Int),.int .u32 x] w fun e w'=>e= .returned (.int .u32 (Sha.rot n x))∧w'=w:=by
 go_enter Tryz.func250,Tryz.ntmps250
 go_wp2_with fail
 refine(rotateLeft32_any n hn x _).mono ?_
 rintro e w' ⟨rfl,rfl⟩
 go_wp2
 go_ret
 exact⟨rfl,rfl⟩
def Sha.word (l:List Nat):Int:=l.foldl (fun(x:Int) (b:Nat)=>bits .or .u32 (x*256%4294967296) (b:Int)) 0
theorem Sha.word_next {l:List Nat} {i:Nat} (hi:i<l.length):Sha.word (l.take (i+1))=bits .or .u32 (Sha.word (l.take i)*256%4294967296) ((l.getD i 0:Nat):Int):=by
 rw [List.take_succ_eq_append_getElem hi,Sha.word,List.foldl_append]
 simp [Sha.word,List.getD_eq_getElem?_getD,hi]
def WordAt (L:List Nat) (w0:World) (vx vi:Value) (wr:World):Prop:=
 ∃ i:Nat,i≤L.length∧vi= .int .i64 (i:Int)∧vx= .int .u32 (Sha.word (L.take i))∧wr=w0
theorem word_any (s:ByteArray) (hs:s.size≤1000) (w:World):
 Calls Tryz.prog 262 #[.string s] w fun e w'=>e= .returned (.int .u32 (Sha.word (bytesOf s)))∧Below w.heap.size w w':=by
 obtain⟨W3,cap,hcv,hb3,hz3,hcell⟩:=conv_bytes (P:=Tryz.prog) (src:=9) Tryz.underlying9 Tryz.underlying42 Tryz.underlying5 s w
 have hL:=bytesOf_length s
 obtain⟨L,hLL⟩:∃ L,bytesOf s=L:=⟨_,rfl⟩
 have hLa:=bytesOf_all s
 rw [hLL] at hL hcell hLa ⊢
 go_enter Tryz.func262,Tryz.ntmps262
 have hst:WordAt L W3 (.int .u32 0) (.int .i64 0) W3:=⟨0,Nat.zero_le _,rfl,rfl,rfl⟩
 have Hst:=Lib.hid hst
 have Hb:=Lib.hid hb3
 clear hst hz3 hLL hb3
 go_wp2
 go_loopw [2,8] (fun vx vi wr=>WordAt L W3 vx vi wr) (fun _ vi _=>L.length-(intOf vi).toNat)
 case atStart=>exact Hst.out
 case round=>
  clear Hst
  obtain⟨i,hi,rfl,rfl,rfl⟩:=hrel
  by_cases hlt:i<L.length
  · have hc:=hcell i (by omega)
    have hg:(i:Int)<(s.size:Int):=by omega
    have hx:=Sha.word_next hlt
    have Hnx:Hid (WordAt L wr (.int .u32 (Sha.word (L.take (i+1)))) (.int .i64 ((i:Int)+1)) wr):=Lib.hid ⟨i+1,hlt,rfl,rfl,rfl⟩
    rw [hx] at Hnx
    have hy:((L.getD i 0:Nat):Int)%4294967296=((L.getD i 0:Nat):Int):=by have:=hLa i;omega
    clear hcell hi hx
    generalize L.getD i 0=y at*
    generalize Sha.word (L.take i)=z at*
    go_wp2
    go_roundw
    case rel=>exact Hnx.out
    case measure=>simp [intOf];omega
  · obtain rfl:i=L.length:=by omega
    have hg:¬ ((L.length:Nat):Int)<(s.size:Int):=by omega
    rw [List.take_length]
    go_wp2
    go_ret
    exact⟨rfl,Hb.out⟩
end Go.Proofs.YtpnbkfboneabaaaGreat
