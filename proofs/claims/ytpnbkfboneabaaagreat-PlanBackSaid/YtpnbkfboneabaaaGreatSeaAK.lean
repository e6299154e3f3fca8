import Derived.Test.YtpnbkfboneabaaaGreatGE
import Derived.Test.YtpnbkfboneabaaaGreatGF
import Derived.Lib.FrozenHead2
set_option maxRecDepth 100000
set_option maxHeartbeats 4000000
namespace Go.Proofs.YtpnbkfboneabaaaGreat
open Go.RowKit
theorem WriteByte_own (b B:Nat) (l:List UInt8) (y:Nat) (hy:y<256) (w:World) (h:Bd.At b B l w) (hlen:l.length≤1000000000) (hBw:B≤w.heap.size):
 Calls Tryz.prog 235 #[.pointer (some ⟨b,0,none⟩),.int .u8 (y:Int)] w fun e w'=>e= .returned .nilIface∧Bd.At b B (l++[UInt8.ofNat y]) w'∧Keep (fun k=>k<B∧k≠b) w w':=by
 obtain⟨i0,hi,hz0,hz1,hz2⟩:=info_parts LawA.infoByte
 obtain⟨hb,p,v,hp,hr,ho⟩:=h
 have HR:=Lib.hid hr
 have HO:=Lib.hid ho
 clear hr ho
 go_enter Tryz.func235,Tryz.ntmps235
 go_wp2_with fail
 refine(copyCheck_own b p v _ hp HR.out).mono ?_
 rintro e w1 ⟨rfl,hr1,hk1⟩
 have hka:Keep (fun _=>True) w1 (w1.alloc (.cells #[U y] 5)):=(Keep.refl _ _).alloc _
 have hown:=(ownsF_keep HO.out hk1 (fun k hk=>by omega)).alloc (.cells #[U y] 5)
 have c0:w1.cell? ⟨b,0,none⟩=some (.pointer (some ⟨b,0,none⟩)):=hr1.cell 0
 have c1:w1.cell? ⟨b,1,none⟩=some v:=hr1.cell 1
 have hnw:=Row.new w1 5 #[U y]
 go_wp2_with (at_builtin;go_loud (refine wpList_append_ownF _ rfl _ _ 42 rfl B 5 i0 _ 1 1 Tryz.underlying42 hi hz0 hz1 hz2 rfl (by decide) _ _ _ rfl hown ⟨w1.heap.size,0,none⟩ 1 1 [U y] rfl rfl ?c2 (by simp [Value.oneCell']) ?c3 ?c4 ?c5 ?_))
 case c2=>intro j u hu;rw [Addr.add_mid,Nat.zero_add,hnw.cell j];simpa using hu
 case c3=>unfold maxLen;omega
 case c4=>omega
 case c5=>rw [World.size_alloc];have:=hk1.size;omega
 intro v' w2 hown' hgrow _
 have hk2:Keep (fun k=>v.ownBlock≠some k) w1 w2:=((Keep.refl _ w1).alloc _).trans (keep_grown hgrow)
 have hnb:v.ownBlock≠some b:=fun e=>by have:=(hown.lt b e).1;omega
 have hr2:=hr1.keep hk2 hnb
 have d0:w2.cell? ⟨b,0,none⟩=some (.pointer (some ⟨b,0,none⟩)):=hr2.cell 0
 have d1:w2.cell? ⟨b,1,none⟩=some v:=hr2.cell 1
 have f1:w2.frozen? ⟨b,1,none⟩=false:=hr2.frozen 1
 have hk3:Keep (fun k=>k<B∧k≠b) w w2:=(hk1.mono fun k h _=>h.2).trans (hk2.mono fun k h _ e=>by have:=(hown.lt k e).1;omega)
 have HK:=Lib.hid (hk3.setCell (p:=⟨b,1,none⟩) (fun h=>absurd rfl h.2) v')
 have HO2:=Lib.hid (ownsF_keep hown' ((Keep.refl (fun k=>k≠b) w2).setCell (p:=⟨b,1,none⟩) (fun h=>absurd rfl h) v') (fun k hk=>by omega))
 have HR2:=Lib.hid (hr2.store 1 v')
 obtain⟨ao,n',cap,rfl⟩:∃ ao n' cap,v'= .slice ao n' cap:=by
  rcases hown'.2 with ⟨hv,_⟩ | ⟨g,cap,cur,fz,hv,_⟩
  · exact⟨_,_,_,hv⟩
  · exact⟨_,_,_,hv⟩
 clear hr2 hk3 hk2 hk1 hr1 hown hown' hgrow HO HR hnw hka
 go_wp2
 go_ret
 refine⟨rfl,⟨hb,_,_,.inr rfl,HR2.out,?_⟩,HK.out⟩
 have h:=HO2.out
 rw [List.length_append]
 have e:Lib.byteCells (l++[UInt8.ofNat y])=Lib.byteCells l++[U y]:=by
  have:(UInt8.ofNat y).toNat=y:=by simp;omega
  simp [Lib.byteCells,U,this]
 rw [e]
 exact h
def Seal.head (n:Nat):List UInt8:=(List.range 4).map fun j=>UInt8.ofNat (n / 2 ^ (24-8*j)%256)
def Seal.frames (l:List ByteArray):List UInt8:=l.flatMap fun s=>Seal.head s.size++s.data.toList
theorem Seal.frames_append (a b:List ByteArray):Seal.frames (a++b)=Seal.frames a++Seal.frames b:=by simp [Seal.frames]
theorem Seal.frames_one (s:ByteArray):Seal.frames [s]=Seal.head s.size++s.data.toList:=by simp [Seal.frames]
theorem Seal.head_next (n j:Nat):(List.range (j+1)).map (fun j=>UInt8.ofNat (n / 2 ^ (24-8*j)%256))=(List.range j).map (fun j=>UInt8.ofNat (n / 2 ^ (24-8*j)%256))++[UInt8.ofNat (n / 2 ^ (24-8*j)%256)]:=by
 rw [List.range_succ,List.map_append,List.map_singleton]
def FrAt (h0:Nat) (L:List ByteArray) (w0:World) (vi:Value) (wr:World):Prop:=
 ∃ i:Nat,i≤3∧vi= .int .i64 (i:Int)∧Bd.At h0 (h0+1) (Seal.frames (L.take i)) wr∧Keep (fun k=>k<h0) w0 wr
def FbAt (h0:Nat) (P:List UInt8) (n:Nat) (w0:World) (vs:Value) (wr:World):Prop:=
 ∃ j:Nat,j≤4∧vs= .int .i64 (24-8*(j:Int))∧Bd.At h0 (h0+1) (P++(List.range j).map fun j=>UInt8.ofNat (n / 2 ^ (24-8*j)%256)) wr∧Keep (fun k=>k<h0) w0 wr
theorem Seal.frames_length {l:List ByteArray} (h:∀ s∈l,s.size≤1000000):(Seal.frames l).length≤1000004*l.length:=by
 induction l with
 | nil=>exact Nat.le_refl _
 | cons a l ih=>
   have h1:=h a (by simp)
   have h2:=ih fun x hx=>h x (by simp [hx])
   have h3:a.data.toList.length≤1000000:=h1
   rw [show a::l=[a]++l from rfl,Seal.frames_append,Seal.frames_one,List.length_append,List.length_append,Seal.head,List.length_map,List.length_range]
   simp only [List.length_append,List.length_singleton]
   omega
theorem frames_any (g:Nat) (t:TypeId) (a b c:ByteArray) (hs:a.size≤1000000∧b.size≤1000000∧c.size≤1000000) (w:World) (hr:Row w g t #[.string a,.string b,.string c]):
 Calls Tryz.prog 224 #[.slice (some ⟨g,0,none⟩) 3 3] w fun e w'=>e= .returned (.string ⟨(Seal.frames [a,b,c]).toArray⟩)∧Keep (fun k=>k<w.heap.size) w w':=by
 obtain⟨h0,hh0⟩:∃ h0,w.heap.size=h0:=⟨_,rfl⟩
 have hgl:g<h0:=by rw [← hh0];exact hr.lt
 have Hr:=Lib.hid hr
 have hLs:∀ s∈[a,b,c],s.size≤1000000:=by intro s h;simp at h;rcases h with rfl | rfl | rfl <;> omega
 have hat:∀ i,i<3→∃ s:ByteArray,s.size≤1000000∧#[Value.string a,Value.string b,Value.string c][i]? =some (.string s)∧[a,b,c].take (i+1)=[a,b,c].take i++[s]∧(Seal.frames ([a,b,c].take i)).length≤3000012:=by
  intro i hi
  have hfl:(Seal.frames ([a,b,c].take i)).length≤3000012:=by
   have h:=Seal.frames_length (l:=[a,b,c].take i) fun s h=>hLs s (List.mem_of_mem_take h)
   have h2:([a,b,c].take i).length≤3:=by rw [List.length_take];exact Nat.min_le_right _ _
   omega
  obtain rfl | rfl | rfl:i=0∨i=1∨i=2:=by omega
  · exact⟨a,hs.1,rfl,rfl,hfl⟩
  · exact⟨b,hs.2.1,rfl,rfl,hfl⟩
  · exact⟨c,hs.2.2,rfl,rfl,hfl⟩
 have htk:[a,b,c].take 3=[a,b,c]:=rfl
 have hst:FrAt h0 [a,b,c] w (.int .i64 0) (w.alloc (.cells #[.pointer none,.slice none 0 0] 271)):=by
  have hbd:=Row.new w 271 #[.pointer none,.slice none 0 0]
  rw [hh0] at hbd
  exact⟨0,Nat.zero_le _,rfl,⟨by omega,_,_,.inl rfl,hbd,rfl,.inl ⟨rfl,rfl⟩⟩,(Keep.refl _ _).alloc _⟩
 generalize [a,b,c]=L at*
 have Hat:=Lib.hid hat
 have Hst:=Lib.hid hst
 have Htk:=Lib.hid htk
 clear hr hat hLs hst htk
 go_enter Tryz.func224,Tryz.ntmps224
 go_wp2_with fail
 go_loopw [9] (fun vi wr=>FrAt h0 L w vi wr) (fun vi _=>3-(intOf vi).toNat)
 case atStart=>exact Hst.out
 case round=>
  clear Hst
  obtain⟨i,hi,rfl,hbd,hk⟩:=hrel
  have hrw:=Hr.out.keep hk hgl
  by_cases hlt:i<3
  · obtain⟨s,hss,hsi,hst,hfl⟩:=Hat.out i hlt
    have hcell:wr.cell? ⟨g,i,none⟩=some (.string s):=(hrw.cell i).trans hsi
    have hi3:(i:Int)<3:=by omega
    obtain⟨P,hP⟩:∃ P,Seal.frames (L.take i)=P:=⟨_,rfl⟩
    have hnP:Seal.frames (L.take (i+1))=P++Seal.head s.size++s.data.toList:=by rw [hst,Seal.frames_append,Seal.frames_one,hP,List.append_assoc]
    rw [hP] at hbd hfl
    have hst2:FbAt h0 P s.size w (.int .i64 24) wr:=⟨0,by decide,rfl,by simpa using hbd,hk⟩
    have Hst2:=Lib.hid hst2
    have HnP:=Lib.hid hnP
    have hszw:h0+1≤wr.heap.size:=hbd.2.choose_spec.choose_spec.2.1.lt
    clear hst2 hst hP hsi hrw hbd hk hnP
    go_wp2
    go_loopw [6] (fun vs wr=>FbAt h0 P s.size w vs wr) (fun vs _=>(intOf vs+8).toNat)
    case atStart=>exact Hst2.out
    case round=>
     clear Hst2
     obtain⟨j,hj,rfl,hbd,hk⟩:=hrel
     have hwz:=hbd.2.choose_spec.choose_spec.2.1.lt
     have Hbd:=Lib.hid hbd
     have Hk:=Lib.hid hk
     clear hbd hk
     by_cases hlj:j<4
     · obtain⟨sh,hsh⟩:∃ sh:Nat,sh=24-8*j:=⟨_,rfl⟩
       have hshI:(24:Int)-8*(j:Int)=(sh:Int):=by omega
       rw [hshI]
       have hs24:(sh:Int)≤24:=by omega
       obtain⟨y,hy⟩:∃ y,s.size / 2 ^ (24-8*j)%256=y:=⟨_,rfl⟩
       have hyI:(s.size:Int) / 2 ^ (24-8*j)%256=(y:Int):=by rw [← hy];push_cast;rfl
       rw [hsh] at hs24 ⊢
       have hnx:=Seal.head_next s.size j
       rw [hy] at hnx
       have hy256:y<256:=by omega
       have Hnx:=Lib.hid hnx
       have hlen:(P++(List.range j).map fun j=>UInt8.ofNat (s.size / 2 ^ (24-8*j)%256)).length≤1000000000:=by rw [List.length_append,List.length_map,List.length_range];omega
       have HW:=Lib.hid (WriteByte_own h0 (h0+1) _ y hy256 _ Hbd.out hlen (by omega))
       clear hsh hshI hy hnx hlen
       go_wp2_with fail
       refine HW.out.mono ?_
       rintro e w2 ⟨rfl,hbd2,hk2⟩
       rw [List.append_assoc,← Hnx.out] at hbd2
       have esh:((24-8*j:Nat):Int)-8=24-8*((j:Int)+1):=by omega
       have Hn:Hid (FbAt h0 P s.size w (.int .i64 (24-8*((j:Int)+1))) w2):=Lib.hid ⟨j+1,hlj,by rw [Int.natCast_add];rfl,hbd2,Hk.out.trans (hk2.mono fun k hk _=>by omega)⟩
       have Hesh:=Lib.hid esh
       clear hbd2 hk2 esh HW
       go_wp2
       rw [Hesh.out]
       refine⟨Hn.out,?_⟩
       simp [intOf]
       omega
     · obtain rfl:j=4:=by omega
       have hneg:(24:Int)-8*((4:Nat):Int)= -8:=by omega
       rw [hneg]
       have hlen:(P++(List.range 4).map fun j=>UInt8.ofNat (s.size / 2 ^ (24-8*j)%256)).length≤1000000000:=by rw [List.length_append,List.length_map,List.length_range];omega
       have HW:=Lib.hid (WriteString_own h0 (h0+1) _ s _ Hbd.out (by omega) (by omega))
       clear hlen
       go_wp2_with fail
       refine HW.out.mono ?_
       rintro e w2 ⟨rfl,hbd2,hk2⟩
       have Hn:Hid (FrAt h0 L w (.int .i64 ((i:Int)+1)) w2):=Lib.hid ⟨i+1,hlt,by rw [Int.natCast_add];rfl,by rw [HnP.out];exact hbd2,Hk.out.trans (hk2.mono fun k hk _=>by omega)⟩
       clear hbd2 hk2 HW
       go_wp2
       refine⟨Hn.out,?_⟩
       simp [intOf]
       omega
  · obtain rfl:i=3:=by omega
    have HB:=Lib.hid hbd.builder
    have Hk:=Lib.hid hk
    have hwz:=hbd.2.choose_spec.choose_spec.2.1.lt
    clear hbd hk hrw
    go_wp2_with fail
    refine(String_own h0 h0 _ _ HB.out (by omega)).mono ?_
    rintro e w7 ⟨rfl,_,hb7,ho7⟩
    have Hk7:Hid (Keep (fun k=>k<h0) w w7):=Lib.hid (Hk.out.trans ⟨hb7.os,hb7.tape,hb7.output,hb7.size,fun k hk _=>hb7.block k hk⟩)
    clear hb7 ho7
    go_wp2
    go_ret
    rw [hh0]
    exact⟨by rw [Htk.out];rfl,Hk7.out⟩
end Go.Proofs.YtpnbkfboneabaaaGreat
