import Derived.Test.YtpnbkfboneabaaaGreatDigFK
import Derived.Test.YtpnbkfboneabaaaGreatStrHK
set_option maxRecDepth 100000
set_option maxHeartbeats 2000000
namespace Go.Proofs.YtpnbkfboneabaaaGreat
open Go.RowKit
def Mac.block (key:ByteArray):ByteArray:=key++⟨(Lib.repeatL [0] (64-key.size)).toArray⟩
theorem Mac.block_size {key:ByteArray} (h:key.size≤64):(Mac.block key).size=64:=by
 unfold Mac.block
 rw [ByteArray.size_append]
 show key.size+(Lib.repeatL [0] (64-key.size)).toArray.size=64
 rw [List.size_toArray,repeat_length]
 omega
def Mac.pad (key:ByteArray) (y:Nat):ByteArray:=strOf (Str.xor (bytesOf (Mac.block key)) (List.replicate 64 y))
theorem Mac.pad_size {key:ByteArray} (h:key.size≤64) (y:Nat):(Mac.pad key y).size=64:=by
 unfold Mac.pad
 rw [strOf_size,Str.xor_length,bytesOf_length,Mac.block_size h]
theorem pad_any (key:ByteArray) (hk:key.size≤64) (y:Nat) (hy:y<256) (w:World):
 Calls Tryz.prog 217 #[.string key,.int .u8 (y:Int)] w fun e w'=>e= .returned (.string (Mac.pad key y))∧Keep (fun k=>k<w.heap.size) w w':=by
 have hrp:=fun w=>Repeat_own ⟨#[0]⟩ (64-key.size) w (by omega) (by decide)
 have hb64:=Mac.block_size hk
 have hadd:∀ W,(Op.stringOp .add key ⟨(Lib.repeatL [0] (64-key.size)).toArray⟩).run Tryz.prog W= .ok (.string (Mac.block key)) W:=fun W=>run_string_add_sum W _ _ (by have:=hb64;unfold Mac.block at this;rw [ByteArray.size_append] at this;omega)
 rw [show (⟨#[0]⟩:ByteArray).data.toList=[0] from rfl] at hrp
 have hn64:(64:Int)-(key.size:Int)=((64-key.size:Nat):Int):=by omega
 unfold Mac.pad
 generalize hB:Mac.block key=B at*
 have HB:=Lib.hid hB
 clear hB
 have hSl:=bytesOf_length B
 have hSa:=bytesOf_all B
 obtain⟨S,hS⟩:∃ S,bytesOf B=S:=⟨_,rfl⟩
 rw [hS] at hSl hSa ⊢
 generalize (⟨(Lib.repeatL [0] (64-key.size)).toArray⟩:ByteArray)=Z at*
 have HS:=Lib.hid hS
 have HSa:=Lib.hid hSa
 have Hrp:=Lib.hid hrp
 clear hS hSa hrp
 have hRl:=Str.xor_length S (List.replicate 64 y)
 obtain⟨R,hR⟩:∃ R,Str.xor S (List.replicate 64 y)=R:=⟨_,rfl⟩
 rw [hR] at hRl ⊢
 have HR:=Lib.hid hR
 clear hR
 go_enter Tryz.func217,Tryz.ntmps217
 go_wp2_with fail
 refine(Hrp.out _).mono ?_
 rintro e w1 ⟨rfl,hb1⟩
 have Hk1:Hid (Keep (fun k=>k<w.heap.size) w w1):=Lib.hid (Keep.below hb1)
 obtain⟨W3,cap,hcv,hb3,hz3,hbuf⟩:=conv_buf (P:=Tryz.prog) (src:=9) Tryz.underlying9 Tryz.underlying42 Tryz.underlying5 B w1
 rw [HS.out] at hbuf
 obtain⟨g,hg⟩:∃ g,w1.heap.size=g:=⟨_,rfl⟩
 rw [hg] at hcv hbuf hb3
 have hst:XorStrAt g w.heap.size R S w (.int .i64 0) W3:=⟨0,Nat.zero_le _,rfl,by rw [Bs.upTo_zero];exact hbuf,Hk1.out.trans ⟨hb3.os,hb3.tape,hb3.output,by omega,fun k hk _=>hb3.block k (by have:=Hk1.out.size;omega)⟩⟩
 have hgw:w.heap.size≤g:=by have:=Hk1.out.size;omega
 have Hst:=Lib.hid hst
 have Hgs:=Lib.hid hgw
 clear hst hbuf hb3 hz3 Hk1 hgw hb1 Hrp hn64
 go_wp2
 go_loopw [16] (fun vi wr=>XorStrAt g w.heap.size R S w vi wr) (fun vi _=>S.length-(intOf vi).toNat)
 case atStart=>exact Hst.out
 case round=>
  clear Hst
  obtain⟨i,hi,rfl,hbi,hki⟩:=hrel
  by_cases hlt:i<S.length
  · have hcell:=hbi.cell (j:=i) (by rw [Bs.upTo_length hRl];exact hlt)
    have hfr:=hbi.frozen (j:=i) (by rw [Bs.upTo_length hRl];exact hlt)
    rw [Bs.upTo_get hRl (Nat.le_refl _)] at hcell
    have hx:=u8_xor_nat (S.getD i 0) y (HSa.out i) hy
    have hyr:(List.replicate 64 y).getD i 0=y:=by
     rw [List.getD_eq_getElem?_getD,List.getElem?_replicate,if_pos (by omega)]
     rfl
    have Hnx:=Lib.hid (XorStrAt.next hRl hlt Hgs.out hbi hki)
    rw [show R.getD i 0=S.getD i 0 ^^^ y by rw [← HR.out,Str.xor_get _ _ hlt,hyr]] at Hnx
    have hl2:(i:Int)<64:=by omega
    obtain⟨z,hz⟩:∃ z,S.getD i 0 ^^^ y=z:=⟨_,rfl⟩
    rw [hz] at hx Hnx
    clear hz hbi hki hi hyr
    generalize S.getD i 0=x at*
    go_wp2
    refine⟨Hnx.out,?_⟩
    simp [intOf]
    omega
  · obtain rfl:i=S.length:=by omega
    have hl2:¬ ((S.length:Nat):Int)<64:=by omega
    rw [Bs.upTo_all (by rw [hRl];exact Nat.le_refl _) (Nat.le_refl _)] at hbi
    have hcs:=conv_string (P:=Tryz.prog) (src:=42) (dst:=9) Tryz.underlying42 Tryz.underlying5 Tryz.underlying9 g 0 cap R wr (fun k hk=>by rw [Nat.zero_add];exact hbi.cell hk) 64 (by rw [hRl,hSl,hb64])
    have Hki:=Lib.hid hki
    clear hbi hki hi hlt
    go_wp2
    go_ret
    exact⟨rfl,Hki.out⟩
theorem Sha.left_size (s:ByteArray):(Sha.left s).size=s.size%64:=by
 unfold Sha.left
 rw [ByteArray.size_extract]
 omega
theorem bytes_nil_append (a:ByteArray):(⟨#[]⟩:ByteArray)++a=a:=by
 exact ByteArray.ext (by simp)
def Sha.two [Sha.Words] (a b:ByteArray):ByteArray:=Sha.sum (Sha.absorb (Sha.absorb Sha.start a) (Sha.left a++b)) (Sha.left (Sha.left a++b)) (a.size+b.size)
theorem macSum_any [Sha.Words] (a b:ByteArray) (h2:a.size+b.size≤1048576) (w:World) (hR:Sha.RoundIn w):
 Calls Tryz.prog 216 #[.string a,.string b] w fun e w'=>e= .returned (.string (Sha.two a b))∧Keep (fun k=>k<w.heap.size) w w':=by
 have h0:=hR.pos
 have HRd:=Lib.hid hR
 clear hR
 have hA1:=fun w hR=>Add_any Sha.start rfl ⟨#[]⟩ 0 rfl a (by omega) w hR
 rw [bytes_nil_append,Nat.zero_add] at hA1
 have hl1:(Sha.absorb Sha.start a).length=8:=Sha.absorb_length rfl a
 have hs1:=Sha.left_size a
 have hA2:=fun w hR=>Add_any (Sha.absorb Sha.start a) hl1 (Sha.left a) a.size hs1 b h2 w hR
 have hl2:(Sha.absorb (Sha.absorb Sha.start a) (Sha.left a++b)).length=8:=Sha.absorb_length hl1 _
 have hs2:(Sha.left (Sha.left a++b)).size=(a.size+b.size)%64:=by rw [Sha.left_size,ByteArray.size_append,hs1];omega
 have hE:=fun w hR=>End_any _ hl2 _ (a.size+b.size) hs2 h2 w hR
 have hsz:(Sha.sum (Sha.absorb (Sha.absorb Sha.start a) (Sha.left a++b)) (Sha.left (Sha.left a++b)) (a.size+b.size))=Sha.two a b:=rfl
 rw [hsz] at hE
 clear hsz hs1 hs2
 generalize Sha.left (Sha.left a++b)=L2 at*
 generalize Sha.absorb (Sha.absorb Sha.start a) (Sha.left a++b)=V2 at*
 generalize Sha.absorb Sha.start a=V1 at*
 generalize Sha.left a=L1 at*
 generalize Sha.two a b=T at*
 obtain⟨p0,p1,p2,p3,p4,p5,p6,p7,rfl⟩:=Sha.list8 hl1
 obtain⟨q0,q1,q2,q3,q4,q5,q6,q7,rfl⟩:=Sha.list8 hl2
 have hN:=New_any
 generalize Sha.hash Sha.start ⟨#[]⟩ 0=N0 at*
 simp only [Sha.hash,Ws.vals,List.map_cons,List.map_nil,List.append_toArray,List.cons_append,List.nil_append,Int.natCast_add] at hA1 hA2 hE
 have HA1:=Lib.hid hA1
 have HA2:=Lib.hid hA2
 have HE:=Lib.hid hE
 have HN:=Lib.hid hN
 clear hA1 hA2 hE hN hl1 hl2
 go_enter Tryz.func216,Tryz.ntmps216
 go_wp2_with fail
 refine(HN.out _).mono ?_
 rintro e w1 ⟨rfl,hb1⟩
 have hk1:Keep (fun k=>k<w.heap.size) w w1:=Keep.below hb1
 have Hk1:=Lib.hid hk1
 clear hk1
 go_wp2_with fail
 refine(HA1.out _ (HRd.out.keep Hk1.out h0)).mono ?_
 rintro e w2 ⟨rfl,hk2⟩
 have Hk2:=Lib.hid (Hk1.out.trans (hk2.mono fun k (hk:k<w.heap.size) _=>by have:=Hk1.out.size;omega))
 clear hk2 Hk1
 go_wp2_with fail
 obtain⟨g,hg⟩:∃ g,w2.heap.size=g:=⟨_,rfl⟩
 have hgw:w.heap.size≤g:=by have:=Hk2.out.size;omega
 have hr2:=Row.new w2 217 #[.int .u32 p0,.int .u32 p1,.int .u32 p2,.int .u32 p3,.int .u32 p4,.int .u32 p5,.int .u32 p6,.int .u32 p7,.string L1,.int .i64 (a.size:Int)]
 have hk2a:Keep (fun k=>k<w.heap.size) w (w2.alloc (.cells #[.int .u32 p0,.int .u32 p1,.int .u32 p2,.int .u32 p3,.int .u32 p4,.int .u32 p5,.int .u32 p6,.int .u32 p7,.string L1,.int .i64 (a.size:Int)] 217)):=Hk2.out.trans ((Keep.refl _ _).alloc _)
 have Hr2:=Lib.hid hr2
 have Hk2a:=Lib.hid hk2a
 clear hr2 hk2a
 refine(HA2.out _ (HRd.out.keep Hk2a.out h0)).mono ?_
 rintro e w3 ⟨rfl,hk3⟩
 have hr3:=Hr2.out.keep hk3 (by rw [World.size_alloc];exact Nat.lt_succ_self _)
 have Hk3:=Lib.hid (Hk2a.out.trans (hk3.mono fun k (hk:k<w.heap.size) _=>by have:=Hk2a.out.size;omega))
 rw [hg] at hr3
 rw [hg]
 have cc0:=hr3.cell 0
 have cf0:=hr3.frozen 0
 have cc1:=hr3.cell 1
 have cf1:=hr3.frozen 1
 have cc2:=hr3.cell 2
 have cf2:=hr3.frozen 2
 have cc3:=hr3.cell 3
 have cf3:=hr3.frozen 3
 have cc4:=hr3.cell 4
 have cf4:=hr3.frozen 4
 have cc5:=hr3.cell 5
 have cf5:=hr3.frozen 5
 have cc6:=hr3.cell 6
 have cf6:=hr3.frozen 6
 have cc7:=hr3.cell 7
 have cf7:=hr3.frozen 7
 have cc8:=hr3.cell 8
 have cf8:=hr3.frozen 8
 have cc9:=hr3.cell 9
 have cf9:=hr3.frozen 9
 have u0:Row (w3.setCell ⟨g,0,none⟩ (.int .u32 q0)) (g) 217 #[.int .u32 q0,.int .u32 p1,.int .u32 p2,.int .u32 p3,.int .u32 p4,.int .u32 p5,.int .u32 p6,.int .u32 p7,.string L1,.int .i64 (a.size:Int)]:=(hr3).store 0 _
 have u1:Row ((w3.setCell ⟨g,0,none⟩ (.int .u32 q0)).setCell ⟨g,1,none⟩ (.int .u32 q1)) (g) 217 #[.int .u32 q0,.int .u32 q1,.int .u32 p2,.int .u32 p3,.int .u32 p4,.int .u32 p5,.int .u32 p6,.int .u32 p7,.string L1,.int .i64 (a.size:Int)]:=(u0).store 1 _
 have u2:Row (((w3.setCell ⟨g,0,none⟩ (.int .u32 q0)).setCell ⟨g,1,none⟩ (.int .u32 q1)).setCell ⟨g,2,none⟩ (.int .u32 q2)) (g) 217 #[.int .u32 q0,.int .u32 q1,.int .u32 q2,.int .u32 p3,.int .u32 p4,.int .u32 p5,.int .u32 p6,.int .u32 p7,.string L1,.int .i64 (a.size:Int)]:=(u1).store 2 _
 have u3:Row ((((w3.setCell ⟨g,0,none⟩ (.int .u32 q0)).setCell ⟨g,1,none⟩ (.int .u32 q1)).setCell ⟨g,2,none⟩ (.int .u32 q2)).setCell ⟨g,3,none⟩ (.int .u32 q3)) (g) 217 #[.int .u32 q0,.int .u32 q1,.int .u32 q2,.int .u32 q3,.int .u32 p4,.int .u32 p5,.int .u32 p6,.int .u32 p7,.string L1,.int .i64 (a.size:Int)]:=(u2).store 3 _
 have u4:Row (((((w3.setCell ⟨g,0,none⟩ (.int .u32 q0)).setCell ⟨g,1,none⟩ (.int .u32 q1)).setCell ⟨g,2,none⟩ (.int .u32 q2)).setCell ⟨g,3,none⟩ (.int .u32 q3)).setCell ⟨g,4,none⟩ (.int .u32 q4)) (g) 217 #[.int .u32 q0,.int .u32 q1,.int .u32 q2,.int .u32 q3,.int .u32 q4,.int .u32 p5,.int .u32 p6,.int .u32 p7,.string L1,.int .i64 (a.size:Int)]:=(u3).store 4 _
 have u5:Row ((((((w3.setCell ⟨g,0,none⟩ (.int .u32 q0)).setCell ⟨g,1,none⟩ (.int .u32 q1)).setCell ⟨g,2,none⟩ (.int .u32 q2)).setCell ⟨g,3,none⟩ (.int .u32 q3)).setCell ⟨g,4,none⟩ (.int .u32 q4)).setCell ⟨g,5,none⟩ (.int .u32 q5)) (g) 217 #[.int .u32 q0,.int .u32 q1,.int .u32 q2,.int .u32 q3,.int .u32 q4,.int .u32 q5,.int .u32 p6,.int .u32 p7,.string L1,.int .i64 (a.size:Int)]:=(u4).store 5 _
 have u6:Row (((((((w3.setCell ⟨g,0,none⟩ (.int .u32 q0)).setCell ⟨g,1,none⟩ (.int .u32 q1)).setCell ⟨g,2,none⟩ (.int .u32 q2)).setCell ⟨g,3,none⟩ (.int .u32 q3)).setCell ⟨g,4,none⟩ (.int .u32 q4)).setCell ⟨g,5,none⟩ (.int .u32 q5)).setCell ⟨g,6,none⟩ (.int .u32 q6)) (g) 217 #[.int .u32 q0,.int .u32 q1,.int .u32 q2,.int .u32 q3,.int .u32 q4,.int .u32 q5,.int .u32 q6,.int .u32 p7,.string L1,.int .i64 (a.size:Int)]:=(u5).store 6 _
 have u7:Row ((((((((w3.setCell ⟨g,0,none⟩ (.int .u32 q0)).setCell ⟨g,1,none⟩ (.int .u32 q1)).setCell ⟨g,2,none⟩ (.int .u32 q2)).setCell ⟨g,3,none⟩ (.int .u32 q3)).setCell ⟨g,4,none⟩ (.int .u32 q4)).setCell ⟨g,5,none⟩ (.int .u32 q5)).setCell ⟨g,6,none⟩ (.int .u32 q6)).setCell ⟨g,7,none⟩ (.int .u32 q7)) (g) 217 #[.int .u32 q0,.int .u32 q1,.int .u32 q2,.int .u32 q3,.int .u32 q4,.int .u32 q5,.int .u32 q6,.int .u32 q7,.string L1,.int .i64 (a.size:Int)]:=(u6).store 7 _
 have u8:Row (((((((((w3.setCell ⟨g,0,none⟩ (.int .u32 q0)).setCell ⟨g,1,none⟩ (.int .u32 q1)).setCell ⟨g,2,none⟩ (.int .u32 q2)).setCell ⟨g,3,none⟩ (.int .u32 q3)).setCell ⟨g,4,none⟩ (.int .u32 q4)).setCell ⟨g,5,none⟩ (.int .u32 q5)).setCell ⟨g,6,none⟩ (.int .u32 q6)).setCell ⟨g,7,none⟩ (.int .u32 q7)).setCell ⟨g,8,none⟩ (.string L2)) (g) 217 #[.int .u32 q0,.int .u32 q1,.int .u32 q2,.int .u32 q3,.int .u32 q4,.int .u32 q5,.int .u32 q6,.int .u32 q7,.string L2,.int .i64 (a.size:Int)]:=(u7).store 8 _
 have u9:Row ((((((((((w3.setCell ⟨g,0,none⟩ (.int .u32 q0)).setCell ⟨g,1,none⟩ (.int .u32 q1)).setCell ⟨g,2,none⟩ (.int .u32 q2)).setCell ⟨g,3,none⟩ (.int .u32 q3)).setCell ⟨g,4,none⟩ (.int .u32 q4)).setCell ⟨g,5,none⟩ (.int .u32 q5)).setCell ⟨g,6,none⟩ (.int .u32 q6)).setCell ⟨g,7,none⟩ (.int .u32 q7)).setCell ⟨g,8,none⟩ (.string L2)).setCell ⟨g,9,none⟩ (.int .i64 ((a.size:Int)+(b.size:Int)))) (g) 217 #[.int .u32 q0,.int .u32 q1,.int .u32 q2,.int .u32 q3,.int .u32 q4,.int .u32 q5,.int .u32 q6,.int .u32 q7,.string L2,.int .i64 ((a.size:Int)+(b.size:Int))]:=(u8).store 9 _
 have hkf:=((((((((((Keep.refl (fun k=>¬ k=g) w3).setCell (p:=⟨g,0,none⟩) (fun h=>absurd rfl h) (.int .u32 q0)).setCell (p:=⟨g,1,none⟩) (fun h=>absurd rfl h) (.int .u32 q1)).setCell (p:=⟨g,2,none⟩) (fun h=>absurd rfl h) (.int .u32 q2)).setCell (p:=⟨g,3,none⟩) (fun h=>absurd rfl h) (.int .u32 q3)).setCell (p:=⟨g,4,none⟩) (fun h=>absurd rfl h) (.int .u32 q4)).setCell (p:=⟨g,5,none⟩) (fun h=>absurd rfl h) (.int .u32 q5)).setCell (p:=⟨g,6,none⟩) (fun h=>absurd rfl h) (.int .u32 q6)).setCell (p:=⟨g,7,none⟩) (fun h=>absurd rfl h) (.int .u32 q7)).setCell (p:=⟨g,8,none⟩) (fun h=>absurd rfl h) (.string L2)).setCell (p:=⟨g,9,none⟩) (fun h=>absurd rfl h) (.int .i64 ((a.size:Int)+(b.size:Int)))
 obtain⟨WF,hWF⟩:∃ WF,((((((((((w3.setCell ⟨g,0,none⟩ (.int .u32 q0)).setCell ⟨g,1,none⟩ (.int .u32 q1)).setCell ⟨g,2,none⟩ (.int .u32 q2)).setCell ⟨g,3,none⟩ (.int .u32 q3)).setCell ⟨g,4,none⟩ (.int .u32 q4)).setCell ⟨g,5,none⟩ (.int .u32 q5)).setCell ⟨g,6,none⟩ (.int .u32 q6)).setCell ⟨g,7,none⟩ (.int .u32 q7)).setCell ⟨g,8,none⟩ (.string L2)).setCell ⟨g,9,none⟩ (.int .i64 ((a.size:Int)+(b.size:Int))))=WF:=⟨_,rfl⟩
 rw [hWF] at u9 hkf
 have HWF:=Lib.hid hWF
 have Hk4:Hid (Keep (fun k=>k<w.heap.size) w WF):=Lib.hid (Hk3.out.trans (hkf.mono fun k (hk:k<w.heap.size) _=>by omega))
 have Hr4:=Lib.hid u9
 clear hk3 hr3 hkf Hk2 Hk2a Hr2 Hk3 hWF u0 u1 u2 u3 u4 u5 u6 u7 u8 u9
 go_wp2_with fail
 rw [HWF.out]
 refine(HE.out _ (HRd.out.keep Hk4.out h0)).mono ?_
 rintro e w4 ⟨rfl,hk4⟩
 have Hk5:=Lib.hid (Hk4.out.trans (hk4.mono fun k (hk:k<w.heap.size) _=>by have:=Hk4.out.size;omega))
 clear hk4 Hk4 Hr4 HWF
 go_wp2
 go_ret
 exact⟨rfl,Hk5.out⟩
def Mac.mac [Sha.Words] (key s:ByteArray):ByteArray:=Sha.two (Mac.pad key 92) (Sha.two (Mac.pad key 54) s)
theorem Sha.sum_size [Sha.Words] (H:List Int) (hH:H.length=8) (rest:ByteArray) (many:Nat):(Sha.sum H rest many).size=32:=by
 unfold Sha.sum
 rw [strOf_size,Sha.out_length,Sha.absorb_length hH]
theorem Sha.two_size [Sha.Words] (a b:ByteArray):(Sha.two a b).size=32:=Sha.sum_size _ (Sha.absorb_length (Sha.absorb_length rfl a) _) _ _
theorem Mac.mac_size [Sha.Words] (key s:ByteArray):(Mac.mac key s).size=32:=Sha.two_size _ _
theorem Mac_any [Sha.Words] (key s:ByteArray) (hk:key.size≤64) (hs:s.size≤1000000) (w:World) (hR:Sha.RoundIn w):
 Calls Tryz.prog 200 #[.string key,.string s] w fun e w'=>e= .returned (.tuple #[.string (Mac.mac key s),.int .i64 0])∧Keep (fun k=>k<w.heap.size) w w':=by
 have h0:=hR.pos
 have HRd:=Lib.hid hR
 clear hR
 have hP1:=fun w=>pad_any key hk 92 (by decide) w
 have hP2:=fun w=>pad_any key hk 54 (by decide) w
 have hS1:=fun w hR=>macSum_any (Mac.pad key 54) s (by rw [Mac.pad_size hk];omega) w hR
 have hS2:=fun w hR=>macSum_any (Mac.pad key 92) (Sha.two (Mac.pad key 54) s) (by rw [Mac.pad_size hk,Sha.two_size];omega) w hR
 unfold Mac.mac
 generalize Sha.two (Mac.pad key 92) (Sha.two (Mac.pad key 54) s)=T at*
 generalize Sha.two (Mac.pad key 54) s=T1 at*
 generalize Mac.pad key 92=P1 at*
 generalize Mac.pad key 54=P2 at*
 have HP1:=Lib.hid hP1
 have HP2:=Lib.hid hP2
 have HS1:=Lib.hid hS1
 have HS2:=Lib.hid hS2
 have e1:(key.size:Int)≤1000:=by omega
 have e2:(s.size:Int)≤1048512:=by omega
 have e3:(key.size:Int)≤64:=by omega
 clear hP1 hP2 hS1 hS2
 go_enter Tryz.func200,Tryz.ntmps200
 go_wp2_with fail
 refine(HP1.out _).mono ?_
 rintro e w1 ⟨rfl,hk1⟩
 have Hk1:=Lib.hid hk1
 clear hk1
 go_wp2_with fail
 refine(HP2.out _).mono ?_
 rintro e w2 ⟨rfl,hk2⟩
 have Hk2:=Lib.hid (Hk1.out.trans (hk2.mono fun k (hk:k<w.heap.size) _=>by have:=Hk1.out.size;omega))
 clear hk2 Hk1
 go_wp2_with fail
 refine(HS1.out _ (HRd.out.keep Hk2.out h0)).mono ?_
 rintro e w3 ⟨rfl,hk3⟩
 have Hk3:=Lib.hid (Hk2.out.trans (hk3.mono fun k (hk:k<w.heap.size) _=>by have:=Hk2.out.size;omega))
 clear hk3 Hk2
 go_wp2_with fail
 refine(HS2.out _ (HRd.out.keep Hk3.out h0)).mono ?_
 rintro e w4 ⟨rfl,hk4⟩
 have Hk4:=Lib.hid (Hk3.out.trans (hk4.mono fun k (hk:k<w.heap.size) _=>by have:=Hk3.out.size;omega))
 clear hk4 Hk3
 go_wp2
 go_ret2
 exact⟨rfl,Hk4.out⟩
end Go.Proofs.YtpnbkfboneabaaaGreat
