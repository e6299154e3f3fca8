import Derived.Test.YtpnbkfboneabaaaGreatGC
import Derived.OwnWalk
import Derived.Deep.DeepMust
set_option maxRecDepth 100000
set_option maxHeartbeats 2000000
namespace Go.Proofs.YtpnbkfboneabaaaGreat
open Go.RowKit
theorem Aes.infoWord:(Tryz.prog.info? 353).map (fun i=>(i.zero,i.size,i.bytes))=some (some (.agg #[.int .u8 0,.int .u8 0,.int .u8 0,.int .u8 0]),4,4):=by kernel_rfl
theorem Aes.array_at_word (a:Addr) (c:Nat) (W:World):(Instr.arrayAt 353 (.slice (some a) 4 c)).run Tryz.prog W= .ok (.pointer (some a)) W:=by
 simp [Instr.arrayAt,run_underlying Tryz.underlying353]
theorem Aes.slice_str (s:ByteArray) (lo hi:Nat) (h1:lo≤hi) (h2:hi≤s.size) (W:World):
 (Instr.slice 9 (.string s) (some (.int .i64 (lo:Int))) (some (.int .i64 (hi:Int))) none).run Tryz.prog W= .ok (.string (s.extract lo hi)) W:=by
 simp [Instr.slice,run_underlying Tryz.underlying9,Instr.sliceBounds,run_sliceBound,h1,h2]
def KeyAt (B:Nat) (key:List Nat) (w:World) (vo vi:Value) (wr:World):Prop:=
 ∃ i:Nat,4*i≤key.length∧vi= .int .i64 i∧wr.ownsRow B 353 4 vo i ((key.take (4*i)).map U)∧Below w.heap.size w wr
def ExpAt (n:Nat) (r:List Nat) (w:World) (vo vm vi:Value) (wr:World):Prop:=
 ∃(k i mark:Nat) (l:List Nat),Aes.expGo n k i mark l=r∧i+k=4*n+28∧n≤i∧l.length=4*i∧Bs.All l∧mark<256∧vi= .int .i64 (i:Int)∧vm=U mark∧
  wr.ownsRow w.heap.size 353 4 vo i (l.map U)∧Below w.heap.size w wr
theorem ExpAt.next {n k i mark mark':Nat} {r l:List Nat} {w wr:World} {v:Value} {z:Int} (hz:z=(i:Int)+1) (h:Aes.expGo n (k+1) i mark l=r) (hk:i+(k+1)=4*n+28) (hn:n≤i) (hl:l.length=4*i) (ha:Bs.All l) (hm:mark<256)
 (hm':mark'=if i%n=0 then Fld.mul 2 mark else mark) (hw:wr.ownsRow w.heap.size 353 4 v (i+1) ((l++Aes.newWord n i mark l).map U)) (hB:Below w.heap.size w wr):
 ExpAt n r w v (U mark') (.int .i64 z) wr:=by
 subst hz
 refine⟨k,i+1,mark',_,by rw [← h,Aes.expGo,hm'],by omega,by omega,by simp [Aes.newWord];omega,Aes.all_append ha (Aes.newWord_all hm ha),?_,rfl,rfl,hw,hB⟩
 rw [hm']
 split
 · exact Fld.mul_lt 2 mark (by decide)
 · exact hm
def XorAt (g B:Nat) (new t xs:List Nat) (vo:Value) (m:Nat) (w:World) (vk:Value) (wr:World):Prop:=
 ∃ k:Nat,k≤4∧vk= .int .i64 (k:Int)∧Row wr g 353 (Bs.vals (Bs.upTo k new t))∧wr.ownsRow B 353 4 vo m (xs.map U)∧Below B w wr∧B≤g
theorem Aes.newWord_length (n i mark:Nat) (l:List Nat):(Aes.newWord n i mark l).length=4:=rfl
theorem Aes.newWord_get {n i mark m:Nat} {l:List Nat} (hm:m<4):(Aes.newWord n i mark l).getD m 0=(Aes.turnT n i mark (Aes.wordAt l (i-1))).getD m 0 ^^^ l.getD (4*(i-n)+m) 0:=by
 rcases m with _ | _ | _ | _ | m <;> first | rfl | omega
theorem XorAt.next {g B:Nat} {new t xs:List Nat} {vo:Value} {c m:Nat} {w wr:World} (hn:new.length=4) (ht:t.length=4) (hm:m<4) (hT:Row wr g 353 (Bs.vals (Bs.upTo m new t)))
 (ho:wr.ownsRow B 353 4 vo c (xs.map U)) (hne:vo.ownBlock≠some g) (hB:Below B w wr) (hg:B≤g):
 XorAt g B new t xs vo c w (.int .i64 ((m:Int)+1)) (wr.setCell ⟨g,m,none⟩ (U (new.getD m 0)))∧XorAt g B new t xs vo c w (.int .i64 ((m:Int)+1)) (wr.setCell ⟨g,m,none⟩ (U (new.getD m 0))).drew:=by
 have h:=hT.store m (U (new.getD m 0))
 rw [Bs.set,Bs.upTo_set (by omega) (by omega)] at h
 have o:=owns_keep ho (Keep.setCell (Keep.refl (fun k=>k≠g) wr) (p:=⟨g,m,none⟩) (fun h=>absurd rfl h) (U (new.getD m 0))) (fun k hk e=>hne (by rw [hk,e]))
 have b:=hB.setCell (p:=⟨g,m,none⟩) hg (U (new.getD m 0))
 exact⟨⟨m+1,hm,rfl,h,o,b,hg⟩,⟨m+1,hm,rfl,h.drew,o,b.drew,hg⟩⟩
theorem owns_row {W:World} {base:Nat} {e:TypeId} {size n:Nat} {v:Value} {xs:List Value} (h:W.ownsRow base e size v n xs) (hn:0<n):
 ∃ g cap,v= .slice (some ⟨g,0,none⟩) n cap∧base≤g∧g<W.heap.size:=by
 rcases h.2 with ⟨_,rfl⟩ | ⟨g,cap,cur,rfl,hb,hg,_⟩
 · omega
 · exact⟨g,cap,rfl,hb,(Array.getElem?_eq_some_iff.1 hg).1⟩
theorem expanded_any (s:ByteArray) (n:Nat) (hn:n=4∨n=8) (hs:s.size=4*n) (w:World):
 Calls Tryz.prog 286 #[.string s] w fun e w'=>∃ g cap,e= .returned (.slice (some ⟨g,0,none⟩) (4*n+28) cap)∧
  w'.ownsRow w.heap.size 353 4 (.slice (some ⟨g,0,none⟩) (4*n+28) cap) (4*n+28) ((Aes.expanded (bytesOf s)).map U)∧Below w.heap.size w w':=by
 have hkl:(bytesOf s).length=4*n:=by rw [bytesOf_length,hs]
 have hst:KeyAt w.heap.size (bytesOf s) w (.slice none 0 0) (.int .i64 0) w:=⟨0,by omega,rfl,⟨by simp,.inl ⟨rfl,rfl⟩⟩,Below.refl _ _⟩
 have Hst:=Lib.hid hst
 have hdiv:IntKind.i64.wrap ((s.size:Int).tdiv 4)=(n:Int):=by
  rw [hs,Int.tdiv_eq_ediv_of_nonneg (by omega)];rw [show (((4*n:Nat):Int) / 4)=(n:Int) by omega];exact IntWalk.i64_in _ (by omega)
 have hdiv2:(s.size:Int) / 4=(n:Int):=by omega
 have hsz:(s.size:Int)≤32:=by omega
 obtain⟨i0,hi0,hz0,hz1,hz2⟩:=info_parts Aes.infoWord
 clear hst
 have Hs:=Lib.hid hs
 have hn8:n≤8:=by omega
 clear hs
 go_enter Tryz.func286,Tryz.ntmps286
 go_wp2
 go_loopw [2,13] (fun vo vi wr=>KeyAt w.heap.size (bytesOf s) w vo vi wr) (fun _ vi _=>n-(intOf vi).toNat)
 case atStart=>exact Hst.out
 case round=>
  clear Hst
  obtain⟨i,hi,rfl,hown,hB⟩:=hrel
  by_cases hlt4:i<n
  · have hi4:(i:Int)<n:=by omega
    have hsl:=Aes.slice_str s (4*i) (4*i+4) (by omega) (by have:=Hs.out;omega) wr
    rw [show ((4*i:Nat):Int)=4*(i:Int) from by omega,show((4*i+4:Nat):Int)=4*(i:Int)+4 from by omega] at hsl
    have hxs:(s.extract (4*i) (4*i+4)).size=4:=by simp;have:=Hs.out;omega
    obtain⟨W1,cap,hcv,hb1,hz1',hc1⟩:=conv_bytes (P:=Tryz.prog) (src:=9) Tryz.underlying9 Tryz.underlying42 Tryz.underlying5 (s.extract (4*i) (4*i+4)) wr
    rw [hxs] at hcv
    have hbx:∀ j,j<4→(bytesOf (s.extract (4*i) (4*i+4))).getD j 0=(bytesOf s).getD (4*i+j) 0:=fun j hj=>by
     rw [bytesOf_extract _ _ _ (by have:=Hs.out;omega)]
     simp [List.getD_eq_getElem?_getD,List.getElem?_drop,hj]
    have q0:=hc1 0 (by omega)
    have q1:=hc1 1 (by omega)
    have q2:=hc1 2 (by omega)
    have q3:=hc1 3 (by omega)
    rw [hbx 0 (by omega)] at q0
    rw [hbx 1 (by omega)] at q1
    rw [hbx 2 (by omega)] at q2
    rw [hbx 3 (by omega)] at q3
    have har:=Aes.array_at_word ⟨wr.heap.size,0,none⟩ cap W1
    have htk:(bytesOf s).take (4*(i+1))=(bytesOf s).take (4*i)++[(bytesOf s).getD (4*i+0) 0,(bytesOf s).getD (4*i+1) 0,(bytesOf s).getD (4*i+2) 0,(bytesOf s).getD (4*i+3) 0]:=Bs.take_four (by omega)
    have hown1:=owns_below hown hb1
    clear hc1 hbx hxs
    generalize s.extract (4*i) (4*i+4)=s4 at*
    generalize (bytesOf s).getD (4*i+0) 0=y0 at*
    generalize (bytesOf s).getD (4*i+1) 0=y1 at*
    generalize (bytesOf s).getD (4*i+2) 0=y2 at*
    generalize (bytesOf s).getD (4*i+3) 0=y3 at*
    have Htk:=Lib.hid htk
    have Hown:=Lib.hid (hown1.alloc (.cells #[U y0,U y1,U y2,U y3] 353))
    have HB:=Lib.hid (hB.trans (hb1.mono hB.size))
    have HB0:=Lib.hid hB
    have hW:=Row.new W1 353 #[U y0,U y1,U y2,U y3]
    have hnews:∀ j u,[U y0,U y1,U y2,U y3][j]? =some u→(W1.alloc (.cells #[U y0,U y1,U y2,U y3] 353)).cell? ((⟨W1.heap.size,0,none⟩:Addr).add j)=some u:=fun j u hu=>by
     rw [Addr.add_mid,Nat.zero_add,hW.cell j];simpa using hu
    have Hnews:=Lib.hid hnews
    have hil:=Lib.hid hlt4
    have hi7:i≤7:=by omega
    clear htk hown hown1 hB hb1 hW hnews hlt4
    go_wp2_with (at_builtin;go_must (refine wpList_append_own _ rfl _ _ 351 rfl w.heap.size 353 i0 _ 4 4 Tryz.underlying351 hi0 hz0 hz1 hz2 rfl (by decide) _ _ _ rfl Hown.out ⟨wr.heap.size+1,0,none⟩ 1 1 [U y0,U y1,U y2,U y3] rfl rfl (by rw [← hz1'];exact Hnews.out) (by simp [Value.oneCell']) (by unfold maxLen;omega) (by omega) (by have:=HB.out.size;simp;omega) ?_);intro v' w2 hown' hgrow _)
    go_roundw
    case rel=>
     refine⟨i+1,by have:=hil.out;omega,by go_num,?_,(HB.out.alloc HB.out.size _).grown hgrow (by have:=HB.out.size;simp;omega) (fun k hk=>(Hown.out.lt k hk).1)⟩
     rw [Htk.out,List.map_append]
     exact hown'
    case measure=>have:=hil.out;simp [intOf];omega
  · obtain rfl:n=i:=by omega
    have hst2:ExpAt n (Aes.expanded (bytesOf s)) w u2 (U 1) (.int .i64 (n:Int)) wr:=by
     refine⟨3*n+28,n,1,bytesOf s,?_,by omega,Nat.le_refl _,hkl,bytesOf_all s,by decide,rfl,rfl,?_,hB⟩
     · unfold Aes.expanded;rw [hkl,Nat.mul_div_cancel_left n (by decide)]
     · rw [List.take_of_length_le (by omega)] at hown;exact hown
    have Hst2:=Lib.hid hst2
    have hni:¬ (n:Int)<(n:Int):=by omega
    obtain⟨r,hr0⟩:∃ r,Aes.expanded (bytesOf s)=r:=⟨_,rfl⟩
    rw [hr0] at Hst2
    have Hr0:=Lib.hid hr0
    clear hr0
    clear hst2 hown hB hlt4 hi
    go_wp2
    go_loopw [2,5,6] (fun vo vm vi wr=>ExpAt n r w vo vm vi wr) (fun _ _ vi _=>4*n+28-(intOf vi).toNat)
    case atStart=>exact Hst2.out
    case round=>
     clear Hst2
     obtain⟨k,i,mark,l,hr,hik,hni',hl,hla,hmk,rfl,rfl,hown,hB⟩:=hrel
     by_cases hk0:i<4*n+28
     · obtain⟨k,rfl⟩:∃ j,k=j+1:=⟨k-1,by omega⟩
       obtain⟨g,cap,rfl,hBg,hgl⟩:=owns_row hown (by omega)
       obtain⟨j,rfl⟩:∃ j,i=j+1:=⟨i-1,by omega⟩
       have hcell:∀ m,m<4*(j+1)→wr.cell? ⟨g,m,none⟩=some (U (l.getD m 0)):=fun m hm=>by
        rw [hown.cellAt m (by omega)]
        simp [List.getD_eq_getElem?_getD,show m<l.length by omega]
       have q0:=hcell (j*4) (by omega)
       have q1:=hcell (j*4+1) (by omega)
       have q2:=hcell (j*4+2) (by omega)
       have q3:=hcell (j*4+3) (by omega)
       have e1:(((j+1:Nat):Int)-1)=(j:Int):=by omega
       have hjb:j+1≤60:=by omega
       have hn0:0<n:=by omega
       have Hr:=Lib.hid hr
       have Hik:=Lib.hid hik
       have Hni:=Lib.hid hni'
       have Hl:=Lib.hid hl
       have Hla:=Lib.hid hla
       have Hmk:=Lib.hid hmk
       have Hown:=Lib.hid hown
       have HB:=Lib.hid hB
       have Hk0:=Lib.hid hk0
       have hlim:(j:Int)+1<4*((n:Int)+7):=by omega
       clear hr hik hni' hl hla hmk hown hB hk0
       have hmul:Calls Tryz.prog 300=Calls Tryz.prog 300:=rfl
       clear hmul
       obtain⟨rr,hrr⟩:∃ rr,(j+1)%n=rr:=⟨_,rfl⟩
       have hrem:((j:Int)+1).tmod (n:Int)=(rr:Int):=by rw [← hrr,show(j:Int)+1=((j+1:Nat):Int) from by omega,Int.tmod_eq_emod_of_nonneg (by omega)];rfl
       have hrem2:((j:Int)+1)%(n:Int)=(rr:Int):=by rw [← hrr];rfl
       have hrw:IntKind.i64.wrap (rr:Int)=(rr:Int):=IntWalk.i64_in _ (by have:=Nat.mod_lt (j+1) hn0;omega)
       have Hrr:=Lib.hid hrr
       have hp0:l.getD (j*4) 0<256:=Hla.out _
       have hp1:l.getD (j*4+1) 0<256:=Hla.out _
       have hp2:l.getD (j*4+2) 0<256:=Hla.out _
       have hp3:l.getD (j*4+3) 0<256:=Hla.out _
       have hwa:Aes.wordAt l (j+1-1)=[l.getD (j*4) 0,l.getD (j*4+1) 0,l.getD (j*4+2) 0,l.getD (j*4+3) 0]:=by rw [Aes.wordAt,Nat.add_sub_cancel,Nat.mul_comm 4 j]
       have Hwa:=Lib.hid hwa
       have hrow0:=Row.new wr 353 #[U (l.getD (j*4) 0),U (l.getD (j*4+1) 0),U (l.getD (j*4+2) 0),U (l.getD (j*4+3) 0)]
       have Hrow0:=Lib.hid hrow0
       have Hcell:=Lib.hid hcell
       have h8n:(n:Int)≤8:=by omega
       have hn1:1≤(n:Int):=by omega
       clear hcell hwa hrow0 hrr hkl hdiv hdiv2 Hs
       generalize l.getD (j*4) 0=p0 at*
       generalize l.getD (j*4+1) 0=p1 at*
       generalize l.getD (j*4+2) 0=p2 at*
       generalize l.getD (j*4+3) 0=p3 at*
       by_cases hc0:rr=0
       · skip
         have hremz:((j:Int)+1).tmod (n:Int)=0:=by rw [hrem,hc0];rfl
         have hremz2:((j:Int)+1)%(n:Int)=0:=by rw [hrem2,hc0];rfl
         have htt:Aes.turnT n (j+1) mark (Aes.wordAt l (j+1-1))=[Fld.sub p1 ^^^ mark,Fld.sub p2,Fld.sub p3,Fld.sub p0]:=by rw [Hwa.out,Aes.turnT,if_pos (by rw [Hrr.out];exact hc0)];rfl
         have Htt:=Lib.hid htt
         obtain⟨wx,hwx⟩:∃ wx,wr.alloc (.cells #[U p0,U p1,U p2,U p3] 353)=wx:=⟨_,rfl⟩
         have HT:Hid (Row wx wr.heap.size 353 (Bs.vals [p0,p1,p2,p3])):=by rw [← hwx];exact Hrow0.out
         have Hownx:Hid (wx.ownsRow w.heap.size 353 4 (.slice (some ⟨g,0,none⟩) (j+1) cap) (j+1) (l.map U)):=by rw [← hwx];exact Hown.out.alloc _
         have HBx:Hid (Below w.heap.size w wx):=by rw [← hwx];exact HB.out.alloc HB.out.size _
         have Hwx:=Lib.hid hwx
         have Hwg:Hid (w.heap.size≤wr.heap.size):=Lib.hid HB.out.size
         have Hne:Hid ((Value.slice (some ⟨g,0,none⟩) (j+1) cap).ownBlock≠some wr.heap.size):=Lib.hid (by simp [Value.ownBlock];omega)
         clear htt
         have Htall:Hid (Bs.All [Fld.sub p1 ^^^ mark,Fld.sub p2,Fld.sub p3,Fld.sub p0]):=Lib.hid (Fld.bytes4 (Nat.xor_lt_two_pow (n:=8) (Fld.sub_lt _ hp1) Hmk.out) (Fld.sub_lt _ hp2) (Fld.sub_lt _ hp3) (Fld.sub_lt _ hp0))
         have hxor:=u8_xor_nat (Fld.sub p1) mark (Fld.sub_lt _ hp1) Hmk.out
         have Hc0:=Lib.hid hc0
         have Hp:Hid (p0<256∧p1<256∧p2<256∧p3<256):=Lib.hid ⟨hp0,hp1,hp2,hp3⟩
         clear hc0 hp0 hp1 hp2 hp3 hwx hrem hrem2 hrw
         go_wp2_with fail
         rw [show wr.alloc (.cells #[U p0,U p1,U p2,U p3] 353)=wx from Hwx.out]
         refine(word_sub p1 p2 p3 p0 Hp.out.2.1 Hp.out.2.2.1 Hp.out.2.2.2 Hp.out.1 _).mono ?_
         rintro e w1 ⟨rfl,hb1⟩
         have HT1:=Lib.hid (HT.out.below hb1 HT.out.lt)
         have Hown1:=Lib.hid (owns_below Hownx.out hb1)
         have HB1:=Lib.hid (HBx.out.trans (hb1.mono HBx.out.size))
         obtain⟨⟨c0,c1,c2,c3⟩,f0,f1,f2,f3⟩:=row_four HT1.out
         generalize wr.heap.size=wg at*
         clear q0 q1 q2 q3 Hrow0 Hcell Hown HB Hwx Hwa hb1 HT Hownx HBx
         generalize Fld.sub p0=r0 at*
         generalize Fld.sub p1=r1 at*
         generalize Fld.sub p2=r2 at*
         generalize Fld.sub p3=r3 at*
         go_wp2_with fail
         obtain⟨w5,hw5⟩:∃ w5,((((w1.setCell ⟨wg,0,none⟩ (U r1)).setCell ⟨wg,1,none⟩ (U r2)).setCell ⟨wg,2,none⟩ (U r3)).setCell ⟨wg,3,none⟩ (U r0)).setCell ⟨wg,0,none⟩ (U (r1 ^^^ mark))=w5:=⟨_,rfl⟩
         have HT5:Hid (Row w5 wg 353 (Bs.vals [r1 ^^^ mark,r2,r3,r0])):=by rw [← hw5];exact((((HT1.out.store 0 (U r1)).store 1 (U r2)).store 2 (U r3)).store 3 (U r0)).store 0 (U (r1 ^^^ mark))
         have hnk:∀ k,(Value.slice (some ⟨g,0,none⟩) (j+1) cap).ownBlock=some k→k≠wg:=fun k hk e=>Hne.out (by rw [hk,e])
         have hkk:∀(W:World) (o:Nat) (v:Value),Keep (fun k=>k≠wg) W (W.setCell ⟨wg,o,none⟩ v):=fun W o v=>(Keep.refl _ W).setCell (fun h=>absurd rfl h) v
         have Hown5:Hid (w5.ownsRow w.heap.size 353 4 (.slice (some ⟨g,0,none⟩) (j+1) cap) (j+1) (l.map U)):=by rw [← hw5];exact owns_keep (owns_keep (owns_keep (owns_keep (owns_keep Hown1.out (hkk _ _ _) hnk) (hkk _ _ _) hnk) (hkk _ _ _) hnk) (hkk _ _ _) hnk) (hkk _ _ _) hnk
         have HB5:Hid (Below w.heap.size w w5):=by rw [← hw5];exact((((HB1.out.setCell (p:=⟨wg,0,none⟩) Hwg.out _).setCell (p:=⟨wg,1,none⟩) Hwg.out _).setCell (p:=⟨wg,2,none⟩) Hwg.out _).setCell (p:=⟨wg,3,none⟩) Hwg.out _).setCell (p:=⟨wg,0,none⟩) Hwg.out _
         have Hw5:=Lib.hid hw5
         clear hw5 hnk hkk c0 c1 c2 c3 f0 f1 f2 f3 HT1 Hown1 HB1 hxor
         rw [show ((((w1.setCell ⟨wg,0,none⟩ (U r1)).setCell ⟨wg,1,none⟩ (U r2)).setCell ⟨wg,2,none⟩ (U r3)).setCell ⟨wg,3,none⟩ (U r0)).setCell ⟨wg,0,none⟩ (U (r1 ^^^ mark))=w5 from Hw5.out]
         refine(mul_nat 2 mark (by decide) Hmk.out _).mono ?_
         rintro e wx ⟨rfl,hb5⟩
         have HT:=Lib.hid (HT5.out.below hb5 HT5.out.lt)
         have Hownx:=Lib.hid (owns_below Hown5.out hb5)
         have HBx:=Lib.hid (HB5.out.trans (hb5.mono HB5.out.size))
         clear hb5 Hw5 HT5 Hown5 HB5
         obtain⟨mk2,hmk2⟩:∃ mk2,Fld.mul 2 mark=mk2:=⟨_,rfl⟩
         rw [hmk2]
         have Hmk2:=Lib.hid hmk2
         clear hmk2
         go_wp2
         have hst3:XorAt wg w.heap.size (Aes.newWord n (j+1) mark l) [r1 ^^^ mark,r2,r3,r0] l (.slice (some ⟨g,0,none⟩) (j+1) cap) (j+1) w (.int .i64 0) wx:=⟨0,by decide,rfl,by rw [Bs.upTo_zero];exact HT.out,Hownx.out,HBx.out,Hwg.out⟩
         have Hst3:=Lib.hid hst3
         have hgT:wg<wx.heap.size:=HT.out.lt
         have HgT:=Lib.hid hgT
         clear hst3 hgT HT Hownx HBx
         go_loopw [76] (fun vk wy=>XorAt wg w.heap.size (Aes.newWord n (j+1) mark l) [r1 ^^^ mark,r2,r3,r0] l (.slice (some ⟨g,0,none⟩) (j+1) cap) (j+1) w vk wy) (fun vk _=>4-(intOf vk).toNat)
         case atStart=>exact Hst3.out
         case round=>
          clear Hst3
          obtain⟨m,hm,rfl,hT,howny,hBy,hBT⟩:=hrel
          by_cases hlt4:m<4
          · have hm4:(m:Int)<4:=by omega
            obtain⟨o,ho⟩:∃ o,j+1-n=o:=⟨_,rfl⟩
            have hni:=Hni.out
            have e3:((j+1:Nat):Int)-(n:Int)=(o:Int):=by omega
            have e4:(j:Int)+1-(n:Int)=(o:Int):=by omega
            have hoj:o<j+1:=by omega
            have c1:wr.cell? ⟨wg,m,none⟩=some (U ([r1 ^^^ mark,r2,r3,r0].getD m 0)):=by rw [hT.cell m,Bs.get _ (by rw [Bs.upTo_length (Aes.newWord_length _ _ _ _)];exact hlt4),Bs.upTo_get (Aes.newWord_length _ _ _ _) (Nat.le_refl _)]
            have f1:=hT.frozen m
            have c2:wr.cell? ⟨g,o*4+m,none⟩=some (U (l.getD (o*4+m) 0)):=by
             rw [howny.cellAt (o*4+m) (by omega)]
             simp [List.getD_eq_getElem?_getD,show o*4+m<l.length by have:=Hl.out;omega]
            have hx1:[r1 ^^^ mark,r2,r3,r0].getD m 0<256:=Htall.out m
            have hx2:l.getD (o*4+m) 0<256:=Hla.out _
            have hx:=u8_xor_nat _ _ hx1 hx2
            have hnw:[r1 ^^^ mark,r2,r3,r0].getD m 0 ^^^ l.getD (o*4+m) 0=(Aes.newWord n (j+1) mark l).getD m 0:=by rw [Aes.newWord_get hlt4,Htt.out,ho,Nat.mul_comm 4 o]
            rw [hnw] at hx
            have hne:=Hne.out
            have Hnext:=Lib.hid (XorAt.next (w:=w) (B:=w.heap.size) (Aes.newWord_length _ _ _ _) rfl hlt4 hT howny hne hBy hBT)
            have hoi:(o:Int)<((j+1:Nat):Int):=by omega
            clear hT howny hBy hBT hlt4 hm hx1 hx2 hnw hne
            generalize (Aes.newWord n (j+1) mark l).getD m 0=x at*
            generalize [r1 ^^^ mark,r2,r3,r0].getD m 0=y at*
            generalize l.getD (o*4+m) 0=z at*
            go_wp2
            go_region
            all_goals
             go_wp2
             go_roundw
             case rel=>first | exact Hnext.out.1 | exact Hnext.out.2
             case measure=>simp [intOf];omega
          · obtain rfl:m=4:=by omega
            have hm4:¬ ((4:Nat):Int)<4:=by omega
            have hT4:Row wr wg 353 #[U ((Aes.newWord n (j+1) mark l).getD 0 0),U ((Aes.newWord n (j+1) mark l).getD 1 0),U ((Aes.newWord n (j+1) mark l).getD 2 0),U ((Aes.newWord n (j+1) mark l).getD 3 0)]:=hT
            obtain⟨⟨q0,q1,q2,q3⟩,-⟩:=row_four hT4
            have HT:=Lib.hid hT4
            have hnw:Aes.newWord n (j+1) mark l=[(Aes.newWord n (j+1) mark l).getD 0 0,(Aes.newWord n (j+1) mark l).getD 1 0,(Aes.newWord n (j+1) mark l).getD 2 0,(Aes.newWord n (j+1) mark l).getD 3 0]:=rfl
            have Hnw:=Lib.hid hnw
            have Howny:=Lib.hid (howny.alloc (.cells #[U ((Aes.newWord n (j+1) mark l).getD 0 0),U ((Aes.newWord n (j+1) mark l).getD 1 0),U ((Aes.newWord n (j+1) mark l).getD 2 0),U ((Aes.newWord n (j+1) mark l).getD 3 0)] 353))
            have HBy:=Lib.hid hBy
            clear hT hT4 howny hBy hBT hnw hm
            generalize (Aes.newWord n (j+1) mark l).getD 0 0=z0 at*
            generalize (Aes.newWord n (j+1) mark l).getD 1 0=z1 at*
            generalize (Aes.newWord n (j+1) mark l).getD 2 0=z2 at*
            generalize (Aes.newWord n (j+1) mark l).getD 3 0=z3 at*
            have hnews:∀ j u,[U z0,U z1,U z2,U z3][j]? =some u→(wr.alloc (.cells #[U z0,U z1,U z2,U z3] 353)).cell? ((⟨wr.heap.size,0,none⟩:Addr).add j)=some u:=fun j u hu=>by
             have hW:=Row.new wr 353 #[U z0,U z1,U z2,U z3]
             rw [Addr.add_mid,Nat.zero_add,hW.cell j];simpa using hu
            have Hnews:=Lib.hid hnews
            clear hnews
            go_wp2_with (at_builtin;go_must (refine wpList_append_own _ rfl _ _ 351 rfl w.heap.size 353 i0 _ 4 4 Tryz.underlying351 hi0 hz0 hz1 hz2 rfl (by decide) _ _ _ rfl Howny.out ⟨wr.heap.size,0,none⟩ 1 1 [U z0,U z1,U z2,U z3] rfl rfl Hnews.out (by simp [Value.oneCell']) (by unfold maxLen;omega) (by omega) (by have:=HBy.out.size;simp;omega) ?_);intro v' w2 hown' hgrow _)
            go_roundw
            case rel=>
             have hN:ExpAt n r w v' (U (mk2)) (.int .i64 (((j+1:Nat):Int)+1)) w2:=by
              refine ExpAt.next (mark':=mk2) rfl Hr.out Hik.out Hni.out Hl.out Hla.out Hmk.out (by rw [Hrr.out,if_pos Hc0.out,Hmk2.out]) ?_ ((HBy.out.alloc HBy.out.size _).grown hgrow (by have:=HBy.out.size;simp;omega) (fun k hk=>(Howny.out.lt k hk).1))
              rw [Hnw.out,List.map_append]
              exact hown'
             exact hN
            case measure=>have:=Hk0.out;simp [intOf];omega
       · by_cases hn8':n=8
         · by_cases hc4:rr=4
           · skip
             have t1:((rr:Int) == 0)=false:=by rw [beq_eq_false_iff_ne];omega
             have t2:((n:Int) == 8)=true:=by rw [beq_iff_eq];omega
             have t3:((rr:Int) == 4)=true:=by rw [beq_iff_eq];omega
             have hrem8:((j:Int)+1)%8=(rr:Int):=by rw [hn8'] at hrem2;exact hrem2
             have t4:(((j:Int)+1)%8 == 0)=false:=by rw [hrem8];exact t1
             have t5:(((j:Int)+1)%8 == 4)=true:=by rw [hrem8];exact t3
             have hlim8:(j:Int)+1<60:=by omega
             have hw15:IntKind.i64.wrap ((n:Int)+7)=15:=by rw [hn8'];rfl
             have htt:Aes.turnT n (j+1) mark (Aes.wordAt l (j+1-1))=[Fld.sub p0,Fld.sub p1,Fld.sub p2,Fld.sub p3]:=by rw [Hwa.out,Aes.turnT,if_neg (by rw [Hrr.out];exact hc0),if_pos ⟨hn8',by rw [Hrr.out];exact hc4⟩];rfl
             have Htt:=Lib.hid htt
             obtain⟨wx,hwx⟩:∃ wx,wr.alloc (.cells #[U p0,U p1,U p2,U p3] 353)=wx:=⟨_,rfl⟩
             have HT:Hid (Row wx wr.heap.size 353 (Bs.vals [p0,p1,p2,p3])):=by rw [← hwx];exact Hrow0.out
             have Hownx:Hid (wx.ownsRow w.heap.size 353 4 (.slice (some ⟨g,0,none⟩) (j+1) cap) (j+1) (l.map U)):=by rw [← hwx];exact Hown.out.alloc _
             have HBx:Hid (Below w.heap.size w wx):=by rw [← hwx];exact HB.out.alloc HB.out.size _
             have Hwx:=Lib.hid hwx
             have Hwg:Hid (w.heap.size≤wr.heap.size):=Lib.hid HB.out.size
             have Hne:Hid ((Value.slice (some ⟨g,0,none⟩) (j+1) cap).ownBlock≠some wr.heap.size):=Lib.hid (by simp [Value.ownBlock];omega)
             clear htt
             have Htall:Hid (Bs.All [Fld.sub p0,Fld.sub p1,Fld.sub p2,Fld.sub p3]):=Lib.hid (Fld.bytes4 (Fld.sub_lt _ hp0) (Fld.sub_lt _ hp1) (Fld.sub_lt _ hp2) (Fld.sub_lt _ hp3))
             have Hc0:=Lib.hid hc0
             have Hp:Hid (p0<256∧p1<256∧p2<256∧p3<256):=Lib.hid ⟨hp0,hp1,hp2,hp3⟩
             clear hc0 hp0 hp1 hp2 hp3 hwx
             go_wp2_with fail
             rw [show wr.alloc (.cells #[U p0,U p1,U p2,U p3] 353)=wx from Hwx.out]
             refine(word_sub p0 p1 p2 p3 Hp.out.1 Hp.out.2.1 Hp.out.2.2.1 Hp.out.2.2.2 _).mono ?_
             rintro e w1 ⟨rfl,hb1⟩
             have HT1:=Lib.hid (HT.out.below hb1 HT.out.lt)
             have Hown1:=Lib.hid (owns_below Hownx.out hb1)
             have HB1:=Lib.hid (HBx.out.trans (hb1.mono HBx.out.size))
             obtain⟨⟨c0,c1,c2,c3⟩,f0,f1,f2,f3⟩:=row_four HT1.out
             generalize wr.heap.size=wg at*
             clear q0 q1 q2 q3 Hrow0 Hcell Hown HB Hwx Hwa hb1 HT Hownx HBx
             obtain⟨wx,hwx⟩:∃ wx,(((w1.setCell ⟨wg,0,none⟩ (U (Fld.sub p0))).setCell ⟨wg,1,none⟩ (U (Fld.sub p1))).setCell ⟨wg,2,none⟩ (U (Fld.sub p2))).setCell ⟨wg,3,none⟩ (U (Fld.sub p3))=wx:=⟨_,rfl⟩
             have HT:Hid (Row wx wg 353 (Bs.vals [Fld.sub p0,Fld.sub p1,Fld.sub p2,Fld.sub p3])):=by rw [← hwx];exact(((HT1.out.store 0 (U (Fld.sub p0))).store 1 (U (Fld.sub p1))).store 2 (U (Fld.sub p2))).store 3 (U (Fld.sub p3))
             have hnk:∀ k,(Value.slice (some ⟨g,0,none⟩) (j+1) cap).ownBlock=some k→k≠wg:=fun k hk e=>Hne.out (by rw [hk,e])
             have hkk:∀(W:World) (o:Nat) (v:Value),Keep (fun k=>k≠wg) W (W.setCell ⟨wg,o,none⟩ v):=fun W o v=>(Keep.refl _ W).setCell (fun h=>absurd rfl h) v
             have Hownx:Hid (wx.ownsRow w.heap.size 353 4 (.slice (some ⟨g,0,none⟩) (j+1) cap) (j+1) (l.map U)):=by rw [← hwx];exact owns_keep (owns_keep (owns_keep (owns_keep Hown1.out (hkk _ _ _) hnk) (hkk _ _ _) hnk) (hkk _ _ _) hnk) (hkk _ _ _) hnk
             have HBx:Hid (Below w.heap.size w wx):=by rw [← hwx];exact(((HB1.out.setCell (p:=⟨wg,0,none⟩) Hwg.out _).setCell (p:=⟨wg,1,none⟩) Hwg.out _).setCell (p:=⟨wg,2,none⟩) Hwg.out _).setCell (p:=⟨wg,3,none⟩) Hwg.out _
             have Hwx:=Lib.hid hwx
             clear hwx hnk hkk
             clear HT1 Hown1 HB1
             generalize Fld.sub p0=r0 at*
             generalize Fld.sub p1=r1 at*
             generalize Fld.sub p2=r2 at*
             generalize Fld.sub p3=r3 at*
             go_wp2
             clear c0 c1 c2 c3 f0 f1 f2 f3
             rw [show (((w1.setCell ⟨wg,0,none⟩ (U r0)).setCell ⟨wg,1,none⟩ (U r1)).setCell ⟨wg,2,none⟩ (U r2)).setCell ⟨wg,3,none⟩ (U r3)=wx from Hwx.out]
             have hst3:XorAt wg w.heap.size (Aes.newWord n (j+1) mark l) [r0,r1,r2,r3] l (.slice (some ⟨g,0,none⟩) (j+1) cap) (j+1) w (.int .i64 0) wx:=⟨0,by decide,rfl,by rw [Bs.upTo_zero];exact HT.out,Hownx.out,HBx.out,Hwg.out⟩
             have Hst3:=Lib.hid hst3
             have hgT:wg<wx.heap.size:=HT.out.lt
             have HgT:=Lib.hid hgT
             clear hst3 hgT HT Hownx HBx
             go_loopw [76] (fun vk wy=>XorAt wg w.heap.size (Aes.newWord n (j+1) mark l) [r0,r1,r2,r3] l (.slice (some ⟨g,0,none⟩) (j+1) cap) (j+1) w vk wy) (fun vk _=>4-(intOf vk).toNat)
             case atStart=>exact Hst3.out
             case round=>
              clear Hst3
              obtain⟨m,hm,rfl,hT,howny,hBy,hBT⟩:=hrel
              by_cases hlt4:m<4
              · have hm4:(m:Int)<4:=by omega
                obtain⟨o,ho⟩:∃ o,j+1-n=o:=⟨_,rfl⟩
                have hni:=Hni.out
                have e3:((j+1:Nat):Int)-(n:Int)=(o:Int):=by omega
                have e4:(j:Int)+1-(n:Int)=(o:Int):=by omega
                have e5:n=8→(j:Int)+1-8=(o:Int):=fun h=>by omega
                have e5:=e5 (by have:=eq_of_beq t2;omega)
                have hoj:o<j+1:=by omega
                have c1:wr.cell? ⟨wg,m,none⟩=some (U ([r0,r1,r2,r3].getD m 0)):=by rw [hT.cell m,Bs.get _ (by rw [Bs.upTo_length (Aes.newWord_length _ _ _ _)];exact hlt4),Bs.upTo_get (Aes.newWord_length _ _ _ _) (Nat.le_refl _)]
                have f1:=hT.frozen m
                have c2:wr.cell? ⟨g,o*4+m,none⟩=some (U (l.getD (o*4+m) 0)):=by
                 rw [howny.cellAt (o*4+m) (by omega)]
                 simp [List.getD_eq_getElem?_getD,show o*4+m<l.length by have:=Hl.out;omega]
                have hx1:[r0,r1,r2,r3].getD m 0<256:=Htall.out m
                have hx2:l.getD (o*4+m) 0<256:=Hla.out _
                have hx:=u8_xor_nat _ _ hx1 hx2
                have hnw:[r0,r1,r2,r3].getD m 0 ^^^ l.getD (o*4+m) 0=(Aes.newWord n (j+1) mark l).getD m 0:=by rw [Aes.newWord_get hlt4,Htt.out,ho,Nat.mul_comm 4 o]
                rw [hnw] at hx
                have hne:=Hne.out
                have Hnext:=Lib.hid (XorAt.next (w:=w) (B:=w.heap.size) (Aes.newWord_length _ _ _ _) rfl hlt4 hT howny hne hBy hBT)
                have hoi:(o:Int)<((j+1:Nat):Int):=by omega
                clear hT howny hBy hBT hlt4 hm hx1 hx2 hnw hne
                generalize (Aes.newWord n (j+1) mark l).getD m 0=x at*
                generalize [r0,r1,r2,r3].getD m 0=y at*
                generalize l.getD (o*4+m) 0=z at*
                go_wp2
                go_region
                all_goals
                 go_wp2
                 go_roundw
                 case rel=>first | exact Hnext.out.1 | exact Hnext.out.2
                 case measure=>simp [intOf];omega
              · obtain rfl:m=4:=by omega
                have hm4:¬ ((4:Nat):Int)<4:=by omega
                have hT4:Row wr wg 353 #[U ((Aes.newWord n (j+1) mark l).getD 0 0),U ((Aes.newWord n (j+1) mark l).getD 1 0),U ((Aes.newWord n (j+1) mark l).getD 2 0),U ((Aes.newWord n (j+1) mark l).getD 3 0)]:=hT
                obtain⟨⟨q0,q1,q2,q3⟩,-⟩:=row_four hT4
                have HT:=Lib.hid hT4
                have hnw:Aes.newWord n (j+1) mark l=[(Aes.newWord n (j+1) mark l).getD 0 0,(Aes.newWord n (j+1) mark l).getD 1 0,(Aes.newWord n (j+1) mark l).getD 2 0,(Aes.newWord n (j+1) mark l).getD 3 0]:=rfl
                have Hnw:=Lib.hid hnw
                have Howny:=Lib.hid (howny.alloc (.cells #[U ((Aes.newWord n (j+1) mark l).getD 0 0),U ((Aes.newWord n (j+1) mark l).getD 1 0),U ((Aes.newWord n (j+1) mark l).getD 2 0),U ((Aes.newWord n (j+1) mark l).getD 3 0)] 353))
                have HBy:=Lib.hid hBy
                clear hT hT4 howny hBy hBT hnw hm
                generalize (Aes.newWord n (j+1) mark l).getD 0 0=z0 at*
                generalize (Aes.newWord n (j+1) mark l).getD 1 0=z1 at*
                generalize (Aes.newWord n (j+1) mark l).getD 2 0=z2 at*
                generalize (Aes.newWord n (j+1) mark l).getD 3 0=z3 at*
                have hnews:∀ j u,[U z0,U z1,U z2,U z3][j]? =some u→(wr.alloc (.cells #[U z0,U z1,U z2,U z3] 353)).cell? ((⟨wr.heap.size,0,none⟩:Addr).add j)=some u:=fun j u hu=>by
                 have hW:=Row.new wr 353 #[U z0,U z1,U z2,U z3]
                 rw [Addr.add_mid,Nat.zero_add,hW.cell j];simpa using hu
                have Hnews:=Lib.hid hnews
                clear hnews
                go_wp2_with (at_builtin;go_must (refine wpList_append_own _ rfl _ _ 351 rfl w.heap.size 353 i0 _ 4 4 Tryz.underlying351 hi0 hz0 hz1 hz2 rfl (by decide) _ _ _ rfl Howny.out ⟨wr.heap.size,0,none⟩ 1 1 [U z0,U z1,U z2,U z3] rfl rfl Hnews.out (by simp [Value.oneCell']) (by unfold maxLen;omega) (by omega) (by have:=HBy.out.size;simp;omega) ?_);intro v' w2 hown' hgrow _)
                go_roundw
                case rel=>
                 have hN:ExpAt n r w v' (U (mark)) (.int .i64 (((j+1:Nat):Int)+1)) w2:=by
                  refine ExpAt.next (mark':=mark) rfl Hr.out Hik.out Hni.out Hl.out Hla.out Hmk.out (by rw [Hrr.out,if_neg Hc0.out]) ?_ ((HBy.out.alloc HBy.out.size _).grown hgrow (by have:=HBy.out.size;simp;omega) (fun k hk=>(Howny.out.lt k hk).1))
                  rw [Hnw.out,List.map_append]
                  exact hown'
                 have h8:n=8:=by have:=eq_of_beq t2;omega
                 rw [h8] at hN
                 exact⟨_,_,_,hN,rfl,rfl,rfl⟩
                case measure=>have:=Hk0.out;simp [intOf];omega
           · skip
             have t1:((rr:Int) == 0)=false:=by rw [beq_eq_false_iff_ne];omega
             have t2:((n:Int) == 8)=true:=by rw [beq_iff_eq];omega
             have t3:((rr:Int) == 4)=false:=by rw [beq_eq_false_iff_ne];omega
             have hrem8:((j:Int)+1)%8=(rr:Int):=by rw [hn8'] at hrem2;exact hrem2
             have t4:(((j:Int)+1)%8 == 0)=false:=by rw [hrem8];exact t1
             have t5:(((j:Int)+1)%8 == 4)=false:=by rw [hrem8];exact t3
             have hlim8:(j:Int)+1<60:=by omega
             have hw15:IntKind.i64.wrap ((n:Int)+7)=15:=by rw [hn8'];rfl
             have htt:Aes.turnT n (j+1) mark (Aes.wordAt l (j+1-1))=[p0,p1,p2,p3]:=by rw [Hwa.out,Aes.turnT,if_neg (by rw [Hrr.out];exact hc0),if_neg (by rw [Hrr.out];rintro ⟨-,h⟩;exact hc4 h)];rfl
             have Htt:=Lib.hid htt
             obtain⟨wx,hwx⟩:∃ wx,wr.alloc (.cells #[U p0,U p1,U p2,U p3] 353)=wx:=⟨_,rfl⟩
             have HT:Hid (Row wx wr.heap.size 353 (Bs.vals [p0,p1,p2,p3])):=by rw [← hwx];exact Hrow0.out
             have Hownx:Hid (wx.ownsRow w.heap.size 353 4 (.slice (some ⟨g,0,none⟩) (j+1) cap) (j+1) (l.map U)):=by rw [← hwx];exact Hown.out.alloc _
             have HBx:Hid (Below w.heap.size w wx):=by rw [← hwx];exact HB.out.alloc HB.out.size _
             have Hwx:=Lib.hid hwx
             have Hwg:Hid (w.heap.size≤wr.heap.size):=Lib.hid HB.out.size
             have Hne:Hid ((Value.slice (some ⟨g,0,none⟩) (j+1) cap).ownBlock≠some wr.heap.size):=Lib.hid (by simp [Value.ownBlock];omega)
             clear htt
             have Htall:Hid (Bs.All [p0,p1,p2,p3]):=Lib.hid (Fld.bytes4 hp0 hp1 hp2 hp3)
             have Hc0:=Lib.hid hc0
             clear hc0 hp0 hp1 hp2 hp3 hwx hn8' hc4
             go_wp2
             rw [show wr.alloc (.cells #[U p0,U p1,U p2,U p3] 353)=wx from Hwx.out]
             generalize wr.heap.size=wg at*
             clear q0 q1 q2 q3 Hrow0 Hcell Hown HB Hwx Hwa
             have hst3:XorAt wg w.heap.size (Aes.newWord n (j+1) mark l) [p0,p1,p2,p3] l (.slice (some ⟨g,0,none⟩) (j+1) cap) (j+1) w (.int .i64 0) wx:=⟨0,by decide,rfl,by rw [Bs.upTo_zero];exact HT.out,Hownx.out,HBx.out,Hwg.out⟩
             have Hst3:=Lib.hid hst3
             have hgT:wg<wx.heap.size:=HT.out.lt
             have HgT:=Lib.hid hgT
             clear hst3 hgT HT Hownx HBx
             go_loopw [76] (fun vk wy=>XorAt wg w.heap.size (Aes.newWord n (j+1) mark l) [p0,p1,p2,p3] l (.slice (some ⟨g,0,none⟩) (j+1) cap) (j+1) w vk wy) (fun vk _=>4-(intOf vk).toNat)
             case atStart=>exact Hst3.out
             case round=>
              clear Hst3
              obtain⟨m,hm,rfl,hT,howny,hBy,hBT⟩:=hrel
              by_cases hlt4:m<4
              · have hm4:(m:Int)<4:=by omega
                obtain⟨o,ho⟩:∃ o,j+1-n=o:=⟨_,rfl⟩
                have hni:=Hni.out
                have e3:((j+1:Nat):Int)-(n:Int)=(o:Int):=by omega
                have e4:(j:Int)+1-(n:Int)=(o:Int):=by omega
                have hoj:o<j+1:=by omega
                have c1:wr.cell? ⟨wg,m,none⟩=some (U ([p0,p1,p2,p3].getD m 0)):=by rw [hT.cell m,Bs.get _ (by rw [Bs.upTo_length (Aes.newWord_length _ _ _ _)];exact hlt4),Bs.upTo_get (Aes.newWord_length _ _ _ _) (Nat.le_refl _)]
                have f1:=hT.frozen m
                have c2:wr.cell? ⟨g,o*4+m,none⟩=some (U (l.getD (o*4+m) 0)):=by
                 rw [howny.cellAt (o*4+m) (by omega)]
                 simp [List.getD_eq_getElem?_getD,show o*4+m<l.length by have:=Hl.out;omega]
                have hx1:[p0,p1,p2,p3].getD m 0<256:=Htall.out m
                have hx2:l.getD (o*4+m) 0<256:=Hla.out _
                have hx:=u8_xor_nat _ _ hx1 hx2
                have hnw:[p0,p1,p2,p3].getD m 0 ^^^ l.getD (o*4+m) 0=(Aes.newWord n (j+1) mark l).getD m 0:=by rw [Aes.newWord_get hlt4,Htt.out,ho,Nat.mul_comm 4 o]
                rw [hnw] at hx
                have hne:=Hne.out
                have Hnext:=Lib.hid (XorAt.next (w:=w) (B:=w.heap.size) (Aes.newWord_length _ _ _ _) rfl hlt4 hT howny hne hBy hBT)
                have hoi:(o:Int)<((j+1:Nat):Int):=by omega
                clear hT howny hBy hBT hlt4 hm hx1 hx2 hnw hne
                generalize (Aes.newWord n (j+1) mark l).getD m 0=x at*
                generalize [p0,p1,p2,p3].getD m 0=y at*
                generalize l.getD (o*4+m) 0=z at*
                go_wp2
                go_region
                all_goals
                 go_wp2
                 go_roundw
                 case rel=>first | exact Hnext.out.1 | exact Hnext.out.2
                 case measure=>simp [intOf];omega
              · obtain rfl:m=4:=by omega
                have hm4:¬ ((4:Nat):Int)<4:=by omega
                have hT4:Row wr wg 353 #[U ((Aes.newWord n (j+1) mark l).getD 0 0),U ((Aes.newWord n (j+1) mark l).getD 1 0),U ((Aes.newWord n (j+1) mark l).getD 2 0),U ((Aes.newWord n (j+1) mark l).getD 3 0)]:=hT
                obtain⟨⟨q0,q1,q2,q3⟩,-⟩:=row_four hT4
                have HT:=Lib.hid hT4
                have hnw:Aes.newWord n (j+1) mark l=[(Aes.newWord n (j+1) mark l).getD 0 0,(Aes.newWord n (j+1) mark l).getD 1 0,(Aes.newWord n (j+1) mark l).getD 2 0,(Aes.newWord n (j+1) mark l).getD 3 0]:=rfl
                have Hnw:=Lib.hid hnw
                have Howny:=Lib.hid (howny.alloc (.cells #[U ((Aes.newWord n (j+1) mark l).getD 0 0),U ((Aes.newWord n (j+1) mark l).getD 1 0),U ((Aes.newWord n (j+1) mark l).getD 2 0),U ((Aes.newWord n (j+1) mark l).getD 3 0)] 353))
                have HBy:=Lib.hid hBy
                clear hT hT4 howny hBy hBT hnw hm
                generalize (Aes.newWord n (j+1) mark l).getD 0 0=z0 at*
                generalize (Aes.newWord n (j+1) mark l).getD 1 0=z1 at*
                generalize (Aes.newWord n (j+1) mark l).getD 2 0=z2 at*
                generalize (Aes.newWord n (j+1) mark l).getD 3 0=z3 at*
                have hnews:∀ j u,[U z0,U z1,U z2,U z3][j]? =some u→(wr.alloc (.cells #[U z0,U z1,U z2,U z3] 353)).cell? ((⟨wr.heap.size,0,none⟩:Addr).add j)=some u:=fun j u hu=>by
                 have hW:=Row.new wr 353 #[U z0,U z1,U z2,U z3]
                 rw [Addr.add_mid,Nat.zero_add,hW.cell j];simpa using hu
                have Hnews:=Lib.hid hnews
                clear hnews
                go_wp2_with (at_builtin;go_must (refine wpList_append_own _ rfl _ _ 351 rfl w.heap.size 353 i0 _ 4 4 Tryz.underlying351 hi0 hz0 hz1 hz2 rfl (by decide) _ _ _ rfl Howny.out ⟨wr.heap.size,0,none⟩ 1 1 [U z0,U z1,U z2,U z3] rfl rfl Hnews.out (by simp [Value.oneCell']) (by unfold maxLen;omega) (by omega) (by have:=HBy.out.size;simp;omega) ?_);intro v' w2 hown' hgrow _)
                go_roundw
                case rel=>
                 have hN:ExpAt n r w v' (U (mark)) (.int .i64 (((j+1:Nat):Int)+1)) w2:=by
                  refine ExpAt.next (mark':=mark) rfl Hr.out Hik.out Hni.out Hl.out Hla.out Hmk.out (by rw [Hrr.out,if_neg Hc0.out]) ?_ ((HBy.out.alloc HBy.out.size _).grown hgrow (by have:=HBy.out.size;simp;omega) (fun k hk=>(Howny.out.lt k hk).1))
                  rw [Hnw.out,List.map_append]
                  exact hown'
                 exact hN
                case measure=>have:=Hk0.out;simp [intOf];omega
         · skip
           have t1:((rr:Int) == 0)=false:=by rw [beq_eq_false_iff_ne];omega
           have t2:((n:Int) == 8)=false:=by rw [beq_eq_false_iff_ne];omega
           have htt:Aes.turnT n (j+1) mark (Aes.wordAt l (j+1-1))=[p0,p1,p2,p3]:=by rw [Hwa.out,Aes.turnT,if_neg (by rw [Hrr.out];exact hc0),if_neg (by omega)];rfl
           have Htt:=Lib.hid htt
           obtain⟨wx,hwx⟩:∃ wx,wr.alloc (.cells #[U p0,U p1,U p2,U p3] 353)=wx:=⟨_,rfl⟩
           have HT:Hid (Row wx wr.heap.size 353 (Bs.vals [p0,p1,p2,p3])):=by rw [← hwx];exact Hrow0.out
           have Hownx:Hid (wx.ownsRow w.heap.size 353 4 (.slice (some ⟨g,0,none⟩) (j+1) cap) (j+1) (l.map U)):=by rw [← hwx];exact Hown.out.alloc _
           have HBx:Hid (Below w.heap.size w wx):=by rw [← hwx];exact HB.out.alloc HB.out.size _
           have Hwx:=Lib.hid hwx
           have Hwg:Hid (w.heap.size≤wr.heap.size):=Lib.hid HB.out.size
           have Hne:Hid ((Value.slice (some ⟨g,0,none⟩) (j+1) cap).ownBlock≠some wr.heap.size):=Lib.hid (by simp [Value.ownBlock];omega)
           clear htt
           have Htall:Hid (Bs.All [p0,p1,p2,p3]):=Lib.hid (Fld.bytes4 hp0 hp1 hp2 hp3)
           have Hc0:=Lib.hid hc0
           clear hc0 hp0 hp1 hp2 hp3 hwx hn8'
           go_wp2
           rw [show wr.alloc (.cells #[U p0,U p1,U p2,U p3] 353)=wx from Hwx.out]
           generalize wr.heap.size=wg at*
           clear q0 q1 q2 q3 Hrow0 Hcell Hown HB Hwx Hwa
           have hst3:XorAt wg w.heap.size (Aes.newWord n (j+1) mark l) [p0,p1,p2,p3] l (.slice (some ⟨g,0,none⟩) (j+1) cap) (j+1) w (.int .i64 0) wx:=⟨0,by decide,rfl,by rw [Bs.upTo_zero];exact HT.out,Hownx.out,HBx.out,Hwg.out⟩
           have Hst3:=Lib.hid hst3
           have hgT:wg<wx.heap.size:=HT.out.lt
           have HgT:=Lib.hid hgT
           clear hst3 hgT HT Hownx HBx
           go_loopw [76] (fun vk wy=>XorAt wg w.heap.size (Aes.newWord n (j+1) mark l) [p0,p1,p2,p3] l (.slice (some ⟨g,0,none⟩) (j+1) cap) (j+1) w vk wy) (fun vk _=>4-(intOf vk).toNat)
           case atStart=>exact Hst3.out
           case round=>
            clear Hst3
            obtain⟨m,hm,rfl,hT,howny,hBy,hBT⟩:=hrel
            by_cases hlt4:m<4
            · have hm4:(m:Int)<4:=by omega
              obtain⟨o,ho⟩:∃ o,j+1-n=o:=⟨_,rfl⟩
              have hni:=Hni.out
              have e3:((j+1:Nat):Int)-(n:Int)=(o:Int):=by omega
              have e4:(j:Int)+1-(n:Int)=(o:Int):=by omega
              have hoj:o<j+1:=by omega
              have c1:wr.cell? ⟨wg,m,none⟩=some (U ([p0,p1,p2,p3].getD m 0)):=by rw [hT.cell m,Bs.get _ (by rw [Bs.upTo_length (Aes.newWord_length _ _ _ _)];exact hlt4),Bs.upTo_get (Aes.newWord_length _ _ _ _) (Nat.le_refl _)]
              have f1:=hT.frozen m
              have c2:wr.cell? ⟨g,o*4+m,none⟩=some (U (l.getD (o*4+m) 0)):=by
               rw [howny.cellAt (o*4+m) (by omega)]
               simp [List.getD_eq_getElem?_getD,show o*4+m<l.length by have:=Hl.out;omega]
              have hx1:[p0,p1,p2,p3].getD m 0<256:=Htall.out m
              have hx2:l.getD (o*4+m) 0<256:=Hla.out _
              have hx:=u8_xor_nat _ _ hx1 hx2
              have hnw:[p0,p1,p2,p3].getD m 0 ^^^ l.getD (o*4+m) 0=(Aes.newWord n (j+1) mark l).getD m 0:=by rw [Aes.newWord_get hlt4,Htt.out,ho,Nat.mul_comm 4 o]
              rw [hnw] at hx
              have hne:=Hne.out
              have Hnext:=Lib.hid (XorAt.next (w:=w) (B:=w.heap.size) (Aes.newWord_length _ _ _ _) rfl hlt4 hT howny hne hBy hBT)
              have hoi:(o:Int)<((j+1:Nat):Int):=by omega
              clear hT howny hBy hBT hlt4 hm hx1 hx2 hnw hne
              generalize (Aes.newWord n (j+1) mark l).getD m 0=x at*
              generalize [p0,p1,p2,p3].getD m 0=y at*
              generalize l.getD (o*4+m) 0=z at*
              go_wp2
              go_region
              all_goals
               go_wp2
               go_roundw
               case rel=>first | exact Hnext.out.1 | exact Hnext.out.2
               case measure=>simp [intOf];omega
            · obtain rfl:m=4:=by omega
              have hm4:¬ ((4:Nat):Int)<4:=by omega
              have hT4:Row wr wg 353 #[U ((Aes.newWord n (j+1) mark l).getD 0 0),U ((Aes.newWord n (j+1) mark l).getD 1 0),U ((Aes.newWord n (j+1) mark l).getD 2 0),U ((Aes.newWord n (j+1) mark l).getD 3 0)]:=hT
              obtain⟨⟨q0,q1,q2,q3⟩,-⟩:=row_four hT4
              have HT:=Lib.hid hT4
              have hnw:Aes.newWord n (j+1) mark l=[(Aes.newWord n (j+1) mark l).getD 0 0,(Aes.newWord n (j+1) mark l).getD 1 0,(Aes.newWord n (j+1) mark l).getD 2 0,(Aes.newWord n (j+1) mark l).getD 3 0]:=rfl
              have Hnw:=Lib.hid hnw
              have Howny:=Lib.hid (howny.alloc (.cells #[U ((Aes.newWord n (j+1) mark l).getD 0 0),U ((Aes.newWord n (j+1) mark l).getD 1 0),U ((Aes.newWord n (j+1) mark l).getD 2 0),U ((Aes.newWord n (j+1) mark l).getD 3 0)] 353))
              have HBy:=Lib.hid hBy
              clear hT hT4 howny hBy hBT hnw hm
              generalize (Aes.newWord n (j+1) mark l).getD 0 0=z0 at*
              generalize (Aes.newWord n (j+1) mark l).getD 1 0=z1 at*
              generalize (Aes.newWord n (j+1) mark l).getD 2 0=z2 at*
              generalize (Aes.newWord n (j+1) mark l).getD 3 0=z3 at*
              have hnews:∀ j u,[U z0,U z1,U z2,U z3][j]? =some u→(wr.alloc (.cells #[U z0,U z1,U z2,U z3] 353)).cell? ((⟨wr.heap.size,0,none⟩:Addr).add j)=some u:=fun j u hu=>by
               have hW:=Row.new wr 353 #[U z0,U z1,U z2,U z3]
               rw [Addr.add_mid,Nat.zero_add,hW.cell j];simpa using hu
              have Hnews:=Lib.hid hnews
              clear hnews
              go_wp2_with (at_builtin;go_must (refine wpList_append_own _ rfl _ _ 351 rfl w.heap.size 353 i0 _ 4 4 Tryz.underlying351 hi0 hz0 hz1 hz2 rfl (by decide) _ _ _ rfl Howny.out ⟨wr.heap.size,0,none⟩ 1 1 [U z0,U z1,U z2,U z3] rfl rfl Hnews.out (by simp [Value.oneCell']) (by unfold maxLen;omega) (by omega) (by have:=HBy.out.size;simp;omega) ?_);intro v' w2 hown' hgrow _)
              go_roundw
              case rel=>
               have hN:ExpAt n r w v' (U (mark)) (.int .i64 (((j+1:Nat):Int)+1)) w2:=by
                refine ExpAt.next (mark':=mark) rfl Hr.out Hik.out Hni.out Hl.out Hla.out Hmk.out (by rw [Hrr.out,if_neg Hc0.out]) ?_ ((HBy.out.alloc HBy.out.size _).grown hgrow (by have:=HBy.out.size;simp;omega) (fun k hk=>(Howny.out.lt k hk).1))
                rw [Hnw.out,List.map_append]
                exact hown'
               exact hN
              case measure=>have:=Hk0.out;simp [intOf];omega
     · obtain rfl:k=0:=by omega
       obtain rfl:i=4*n+28:=by omega
       obtain⟨g,cap,rfl,hBg,hgl⟩:=owns_row hown (by omega)
       have hr':l=r:=hr
       subst hr'
       have hlim:¬ 4*(n:Int)+28<4*((n:Int)+7):=by omega
       have Hown:=Lib.hid hown
       have HB:=Lib.hid hB
       clear hown hB hr hik hla hl hmk hk0 hni'
       go_wp2
       go_ret
       exact⟨g,cap,rfl,by rw [Hr0.out];exact Hown.out,HB.out⟩
end Go.Proofs.YtpnbkfboneabaaaGreat
