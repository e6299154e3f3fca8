import Derived.Test.YtpnbkfboneabaaaGreatPL
import Derived.Test.YtpnbkfboneabaaaGreatPT
import Derived.Test.YtpnbkfboneabaaaGreatRG
import Derived.Test.YtpnbkfboneabaaaGreatMT
set_option maxRecDepth 100000
set_option maxHeartbeats 4000000
namespace Go.Proofs.YtpnbkfboneabaaaGreat
open Go.RowKit
theorem labelsOf_any (ga:Nat) (ao:Option Addr) (n c:Nat) (w:World):
 Calls Tryz.prog 44 #[.pointer (some ⟨ga,0,none⟩),.slice ao n c] w fun e w'=>e= .returned (.func (.func 77) #[] #[.pointer (some ⟨w.heap.size+1,0,none⟩),.pointer (some ⟨w.heap.size,0,none⟩)])∧w'=(w.alloc (.cells #[.pointer (some ⟨ga,0,none⟩)] 92)).alloc (.cells #[.slice ao n c] 36):=by
 go_enter Tryz.func44,Tryz.ntmps44
 go_wp2
 go_ret
 exact⟨rfl,rfl⟩
namespace Pln
structure PutI [Sha.Words] (o:Orc) (ga:Nat) (W4:World) (pre:List (Pst × ByteArray)) (W:World):Prop where
 s:∃ lv cv,Row W (ga+2) 49 #[.int .i64 1,lv,cv]∧StrAt W (ga+7) lv (pre.map (·.2))∧StrAt W (ga+7) cv (ces o (pre.map (·.1)))∧(∀ g,cv.ownBlock=some g→lv.ownBlock≠some g)
 k:Keep (fun k=>k<ga+5∧k≠ga∧k≠ga+2) W4 W
theorem PutI.keep [Sha.Words] {o:Orc} {ga:Nat} {W4:World} {pre:List (Pst × ByteArray)} {W W':World} {S:Nat→Prop} (h:PutI o ga W4 pre W) (hk:Keep S W W') (hS:∀ k,k≠ga→k≠ga+5→k≠ga+6→S k):PutI o ga W4 pre W':=by
 obtain⟨lv,cv,h1,h2,h3,h4⟩:=h.s
 exact⟨⟨lv,cv,h1.keep hk (hS _ (by omega) (by omega) (by omega)),owns_keep h2 hk (fun k hk2=>by have:=(h2.lt k hk2).1;exact hS k (by omega) (by omega) (by omega)),owns_keep h3 hk (fun k hk2=>by have:=(h3.lt k hk2).1;exact hS k (by omega) (by omega) (by omega)),h4⟩,
  h.k.trans (hk.mono fun k hk2 _=>hS k hk2.2.1 (by omega) (by omega))⟩
def PutRes [Sha.Words] (o:Orc) (l:List Pst) (w:World) (e:Ending) (w':World):Prop:=
 ∃ lv cv nv' cv',e= .returned (.tuple #[.agg #[.int .i64 1,lv,cv],(all o l).agg nv' cv',.int .i64 0])∧StrAt w' w.heap.size lv ((prs o l).map (·.2))∧StrAt w' w.heap.size cv (ces o l)∧NmAt w' 0 nv' (all o l).d.nm∧ClAt w' 0 cv' (all o l).d.cl∧Below w.heap.size w w'
end Pln
attribute [local go_sem] Oper.semAt_some
theorem put_any [Sha.Words] (o:Orc) (hg:o.Good) (nv cv:Value) (l:List Pln.Pst) (v:Value) (hlen:l.length≤200) (hfit:Pln.Fits o l) (w:World) (hR:Sha.RoundIn w) (hN:NmAt w 0 nv o.d.nm) (hC:ClAt w 0 cv o.d.cl) (hp:Pln.PostsAt w v l):
 Calls Tryz.prog 20 #[o.agg nv cv,v] w (Pln.PutRes o l w):=by
 obtain⟨h0,hh0⟩:∃ h0,w.heap.size=h0:=⟨_,rfl⟩
 obtain⟨na,nk,rfl⟩:=slice_of hN
 obtain⟨ca,ck,rfl⟩:=slice_of hC
 have hp2:=hp
 obtain⟨ao,cap,rfl,hlm,hpc⟩:=hp
 have hpn:∀ ad n c,Value.slice ao l.length cap= .slice (some ad) n c→0<n→ad.block<h0:=by
  intro ad n c e hn
  injection e with e1 e2 _
  obtain⟨b,po,h1,h2⟩:=hpc 0 l[0] (List.getElem?_eq_getElem (by omega))
  rw [h1] at e1
  injection e1 with e1
  have h3:b<w.heap.size:=lt_of_cell (h2 0 _ rfl)
  rw [← e1]
  show b<h0
  omega
 have hRi:=fun W (hb:Below w.heap.size w W)=>oracleRight_all o hg (.slice na o.d.nm.length nk) (.slice ca o.d.cl.length ck) W (owns_below hN hb) (owns_below hC hb)
 have hOw:=fun W (hb:Below w.heap.size w W)=>ownPln_any o.m o.key o.d.tb o.d.pos (.slice na o.d.nm.length nk) (.slice ca o.d.cl.length ck) o.d.clash o.d (by have:=hg.d.nms;omega) (by have:=hg.d.cls;omega) W (owns_below hN hb) (owns_below hC hb)
 unfold Orc.agg Orc.vals at hRi
 unfold Orc.vals at hOw
 have HRi:=Lib.hid hRi
 have HOw:=Lib.hid hOw
 have HR:=Lib.hid hR
 have Hp:=Lib.hid hp2
 have Hpn:=Lib.hid hpn
 have Hfit:=Lib.hid hfit
 have Hlm:=Lib.hid hlm
 have hlen':(l.length:Int)≤200:=by omega
 clear hRi hOw hR hp2 hpn hfit hlm hpc hN hC
 unfold Orc.agg Orc.vals
 refine(callsIn_wide (n:=9)).1 ?_
 refine callsIn_of_wp_marks Tryz.func20 rfl trivial ?_ rfl
 simp only [Tryz.ntmps20,List.size_toArray,List.length_cons,List.length_nil,Nat.reduceAdd,Nat.reduceSub,Array.replicate_succ,Array.replicate_zero,List.push_toArray,List.append_toArray,List.nil_append,List.cons_append]
 refine wpIn_wide.2 ?_
 have hb1:Below w.heap.size w (((w.alloc (.cells #[.int .i64 o.m,.string o.key,.string o.d.tb,.int .i64 (o.d.pos:Int),.slice na o.d.nm.length nk,.slice ca o.d.cl.length ck,.bool o.d.clash] 34)).alloc (.cells #[.int .i64 0,.slice none 0 0,.slice none 0 0] 49)).alloc (.cells orcZ 34)):=
  (((Below.refl _ w).alloc (Nat.le_refl _) _).alloc (by simp) _).alloc (by simp;omega) _
 unfold orcZ at hb1
 have Hb1:=Lib.hid hb1
 clear hb1
 go_wp2_with fail
 refine(HRi.out _ Hb1.out).mono ?_
 rintro e w2 ⟨rfl,hb2⟩
 have hb02:=Hb1.out.trans (hb2.mono Hb1.out.size)
 have p0:Row w2 h0 34 #[.int .i64 o.m,.string o.key,.string o.d.tb,.int .i64 (o.d.pos:Int),.slice na o.d.nm.length nk,.slice ca o.d.cl.length ck,.bool o.d.clash]:=by
  have h1:=((Row.new w 34 #[.int .i64 o.m,.string o.key,.string o.d.tb,.int .i64 (o.d.pos:Int),.slice na o.d.nm.length nk,.slice ca o.d.cl.length ck,.bool o.d.clash]).alloc (.cells #[.int .i64 0,.slice none 0 0,.slice none 0 0] 49)).alloc (.cells #[.int .i64 0,.string ⟨#[]⟩,.string ⟨#[]⟩,.int .i64 0,.slice none 0 0,.slice none 0 0,.bool false] 34)
  rw [hh0] at h1
  exact h1.below hb2 h1.lt
 have p1:Row w2 (h0+1) 49 #[.int .i64 0,.slice none 0 0,.slice none 0 0]:=by
  have h1:=(Row.new (w.alloc (.cells #[.int .i64 o.m,.string o.key,.string o.d.tb,.int .i64 (o.d.pos:Int),.slice na o.d.nm.length nk,.slice ca o.d.cl.length ck,.bool o.d.clash] 34)) 49 #[.int .i64 0,.slice none 0 0,.slice none 0 0]).alloc (.cells #[.int .i64 0,.string ⟨#[]⟩,.string ⟨#[]⟩,.int .i64 0,.slice none 0 0,.slice none 0 0,.bool false] 34)
  rw [World.size_alloc,hh0] at h1
  exact h1.below hb2 h1.lt
 have p2:Row w2 (h0+2) 34 #[.int .i64 0,.string ⟨#[]⟩,.string ⟨#[]⟩,.int .i64 0,.slice none 0 0,.slice none 0 0,.bool false]:=by
  have h1:=Row.new ((w.alloc (.cells #[.int .i64 o.m,.string o.key,.string o.d.tb,.int .i64 (o.d.pos:Int),.slice na o.d.nm.length nk,.slice ca o.d.cl.length ck,.bool o.d.clash] 34)).alloc (.cells #[.int .i64 0,.slice none 0 0,.slice none 0 0] 49)) 34 #[.int .i64 0,.string ⟨#[]⟩,.string ⟨#[]⟩,.int .i64 0,.slice none 0 0,.slice none 0 0,.bool false]
  rw [World.size_alloc,World.size_alloc,hh0] at h1
  exact h1.below hb2 h1.lt
 have u0:=p0.cell 0
 change World.cell? _ _=some _ at u0
 have u1:=p0.cell 1
 change World.cell? _ _=some _ at u1
 have u2:=p0.cell 2
 change World.cell? _ _=some _ at u2
 have u3:=p0.cell 3
 change World.cell? _ _=some _ at u3
 have u4:=p0.cell 4
 change World.cell? _ _=some _ at u4
 have u5:=p0.cell 5
 change World.cell? _ _=some _ at u5
 have u6:=p0.cell 6
 change World.cell? _ _=some _ at u6
 have P1:=Lib.hid p1
 have P2:=Lib.hid p2
 have Hb02:=Lib.hid hb02
 clear p0 p1 p2 hb02 hb2 Hb1 HRi
 go_wp2_with fail
 refine(HOw.out _ Hb02.out).mono ?_
 rintro e w3 ⟨nv3,cv3,rfl,hN3,hC3,hb3⟩
 obtain⟨n3,m3,rfl⟩:=slice_of hN3
 obtain⟨c3,k3,rfl⟩:=slice_of hC3
 have hb03:=Hb02.out.trans (hb3.mono Hb02.out.size)
 have P1:=Lib.hid (P1.out.below hb3 P1.out.lt)
 have P2:=Lib.hid (P2.out.below hb3 P2.out.lt)
 obtain⟨ga,hga⟩:∃ ga,w3.heap.size=ga:=⟨_,rfl⟩
 have hg0:h0+3≤ga:=by have:=P2.out.lt;omega
 have HN3:=Lib.hid hN3
 have HC3:=Lib.hid hC3
 have Hb03:=Lib.hid hb03
 clear hN3 hC3 hb03 hb3 Hb02 HOw u0 u1 u2 u3 u4 u5 u6
 go_wp2_with (go_at_call 44;refine(labelsOf_any _ _ _ _ _).mono ?_;rintro e w9 ⟨rfl,rfl⟩)
 obtain⟨W4,hW4⟩:∃ W4,((((w3.alloc (.cells #[.int .i64 o.m,.string o.key,.string o.d.tb,.int .i64 (o.d.pos:Int),.slice n3 o.d.nm.length m3,.slice c3 o.d.cl.length k3,.bool o.d.clash,.int .i64 0] 94)).alloc (.cells #[.pointer (some ⟨ga,0,none⟩)] 92)).alloc (.cells #[.int .i64 1,.slice none 0 0,.slice none 0 0] 49)).alloc (.cells #[.pointer (some ⟨ga,0,none⟩)] 92)).alloc (.cells #[.slice ao l.length cap] 36)=W4:=⟨_,rfl⟩
 have hz4:W4.heap.size=ga+5:=by rw [← hW4,← hga];simp
 have hk34:Below w3.heap.size w3 W4:=by
  rw [← hW4]
  exact(((((Below.refl _ w3).alloc (Nat.le_refl _) _).alloc (by simp) _).alloc (by simp;omega) _).alloc (by simp;omega) _).alloc (by simp;omega) _
 have hb04:Below w.heap.size w W4:=Hb03.out.trans (hk34.mono Hb03.out.size)
 have rA:Row W4 ga 94 #[.int .i64 o.m,.string o.key,.string o.d.tb,.int .i64 (o.d.pos:Int),.slice n3 o.d.nm.length m3,.slice c3 o.d.cl.length k3,.bool o.d.clash,.int .i64 0]:=by
  have h1:=Row.new w3 94 #[.int .i64 o.m,.string o.key,.string o.d.tb,.int .i64 (o.d.pos:Int),.slice n3 o.d.nm.length m3,.slice c3 o.d.cl.length k3,.bool o.d.clash,.int .i64 0]
  rw [hga] at h1
  rw [← hW4]
  have h1:=h1.alloc (.cells #[.pointer (some ⟨ga,0,none⟩)] 92)
  have h1:=h1.alloc (.cells #[.int .i64 1,.slice none 0 0,.slice none 0 0] 49)
  have h1:=h1.alloc (.cells #[.pointer (some ⟨ga,0,none⟩)] 92)
  have h1:=h1.alloc (.cells #[.slice ao l.length cap] 36)
  exact h1
 have rP:Row W4 (ga+1) 92 #[.pointer (some ⟨ga,0,none⟩)]:=by
  have h1:=Row.new (w3.alloc (.cells #[.int .i64 o.m,.string o.key,.string o.d.tb,.int .i64 (o.d.pos:Int),.slice n3 o.d.nm.length m3,.slice c3 o.d.cl.length k3,.bool o.d.clash,.int .i64 0] 94)) 92 #[.pointer (some ⟨ga,0,none⟩)]
  simp only [World.size_alloc,hga] at h1
  rw [← hW4]
  have h1:=h1.alloc (.cells #[.int .i64 1,.slice none 0 0,.slice none 0 0] 49)
  have h1:=h1.alloc (.cells #[.pointer (some ⟨ga,0,none⟩)] 92)
  have h1:=h1.alloc (.cells #[.slice ao l.length cap] 36)
  exact h1
 have rQ:Row W4 (ga+2) 49 #[.int .i64 1,.slice none 0 0,.slice none 0 0]:=by
  have h1:=Row.new ((w3.alloc (.cells #[.int .i64 o.m,.string o.key,.string o.d.tb,.int .i64 (o.d.pos:Int),.slice n3 o.d.nm.length m3,.slice c3 o.d.cl.length k3,.bool o.d.clash,.int .i64 0] 94)).alloc (.cells #[.pointer (some ⟨ga,0,none⟩)] 92)) 49 #[.int .i64 1,.slice none 0 0,.slice none 0 0]
  simp only [World.size_alloc,hga] at h1
  rw [← hW4]
  have h1:=h1.alloc (.cells #[.pointer (some ⟨ga,0,none⟩)] 92)
  have h1:=h1.alloc (.cells #[.slice ao l.length cap] 36)
  exact h1
 have rB:Row W4 (ga+3) 92 #[.pointer (some ⟨ga,0,none⟩)]:=by
  have h1:=Row.new (((w3.alloc (.cells #[.int .i64 o.m,.string o.key,.string o.d.tb,.int .i64 (o.d.pos:Int),.slice n3 o.d.nm.length m3,.slice c3 o.d.cl.length k3,.bool o.d.clash,.int .i64 0] 94)).alloc (.cells #[.pointer (some ⟨ga,0,none⟩)] 92)).alloc (.cells #[.int .i64 1,.slice none 0 0,.slice none 0 0] 49)) 92 #[.pointer (some ⟨ga,0,none⟩)]
  simp only [World.size_alloc,hga] at h1
  rw [← hW4]
  have h1:=h1.alloc (.cells #[.slice ao l.length cap] 36)
  exact h1
 have rL:Row W4 (ga+4) 36 #[.slice ao l.length cap]:=by
  have h1:=Row.new ((((w3.alloc (.cells #[.int .i64 o.m,.string o.key,.string o.d.tb,.int .i64 (o.d.pos:Int),.slice n3 o.d.nm.length m3,.slice c3 o.d.cl.length k3,.bool o.d.clash,.int .i64 0] 94)).alloc (.cells #[.pointer (some ⟨ga,0,none⟩)] 92)).alloc (.cells #[.int .i64 1,.slice none 0 0,.slice none 0 0] 49)).alloc (.cells #[.pointer (some ⟨ga,0,none⟩)] 92)) 36 #[.slice ao l.length cap]
  simp only [World.size_alloc,hga] at h1
  rw [← hW4]
  exact h1
 have hN4:=owns_below HN3.out hk34
 have hC4:=owns_below HC3.out hk34
 have hA4:Pln.AskHeld W4 ga o:=⟨n3,m3,c3,k3,rA,ownsRow_weak hN4 (Nat.zero_le _),ownsRow_weak hC4 (Nat.zero_le _)⟩
 have hR4:=HR.out.below hb04
 have hp4:=Hp.out.below hb04
 have P1:=Lib.hid (P1.out.below hk34 P1.out.lt)
 have P2:=Lib.hid (P2.out.below hk34 P2.out.lt)
 have hfst:(Pln.prs o l).map (·.1)=l:=Pln.prs_fst o l
 have hseq:=labels1_seq (fun pre=>Pln.all o (pre.map (·.1))) (Pln.prs o l) (.slice ao l.length cap) (ga+4) (ga+3) ga (fun k=>k<ga+5∧k≠ga∧k≠ga+2) W4 ⟨by omega,by omega,by omega⟩ ⟨by omega,by omega,by omega⟩ ⟨by omega,by omega,by omega⟩ (fun h=>h.2.1 rfl) (by omega) hR4 (rL.cell 0) (rB.cell 0) (by rw [hfst];exact hp4)
  (fun ad n c e hn=>by have:=Hpn.out ad n c e hn;exact⟨by omega,by omega,by omega⟩)
  (fun pre x rest hx=>by
   obtain⟨hl,hx2⟩:=Pln.prs_at hx
   have hf:=Hfit.out
   rw [hl] at hf
   exact⟨Pln.all_good hg (Pln.fits_take hf).1,(Pln.fits_at hf).1.1,hx2⟩)
 have hI0:Pln.PutI o ga W4 [] W4:=⟨⟨_,_,rQ,World.ownsRow_nil _ _ _ 1,World.ownsRow_nil _ _ _ 1,fun g e=>by cases e⟩,Keep.refl _ _⟩
 have Hseq:=Lib.hid hseq
 have HA4:=Lib.hid hA4
 have HI0:=Lib.hid hI0
 have Hb04:=Lib.hid hb04
 have HrP:=Lib.hid rP
 have HR4:=Lib.hid hR4
 have Hg0:=Lib.hid hg0
 rw [hW4]
 clear hseq hA4 hI0 hb04 rP rQ rB rL rA hR4 hp4 hN4 hC4 hk34 hW4 hfst HN3 HC3 Hb03 hga hg0
 refine(wpIn_wide (n:=9)).1 ?_
 refine wp_rangeI (n:=9) (gf:=77) (lb:=#[.pointer (some ⟨ga+4,0,none⟩),.pointer (some ⟨ga+3,0,none⟩)]) rfl
  (enters_of Tryz.func77 (by kernel_rfl) rfl) Hseq.out (fun k (hk:k=ga)=>by omega) (fun k hk=>by have:=hk.1;omega) (fun pre W i r r' hl h=>h.loop hl) (fun pre x W i r r' hl h=>h.loop hl)
  (fun W hk=>HA4.out.keep hk trivial fun _ _ _ _ _ _=>trivial) (fun _=>rfl) (fun k=>k=ga∨k=ga+2∨ga+7≤k) (fun k hk=>⟨by omega,fun h=>by have:=h.1;have:=h.2.1;have:=h.2.2;omega⟩)
  (Pln.PutI o ga W4) (fun s A B hs hk=>hs.keep hk (fun k h1 h2 h3=>⟨h1,by omega,by omega⟩)) HI0.out ?body ?done
 case done=>
  rintro W hI hA hz hK
  have hA:Pln.AskHeld W ga (Pln.all o ((Pln.prs o l).map (·.1))):=hA
  obtain⟨lv,cv,rq,hLs,hCs,-⟩:=hI.s
  rw [Pln.prs_fst] at hA hCs
  obtain⟨Q,hQ⟩:∃ Q,Pln.all o l=Q:=⟨_,rfl⟩
  rw [hQ] at hA
  obtain⟨n9,m9,c9,k9,ra,hN9,hC9⟩:=hA
  unfold Pln.askV at ra
  obtain⟨L,hL⟩:∃ L,(Pln.prs o l).map (·.2)=L:=⟨_,rfl⟩
  obtain⟨C,hC⟩:∃ C,Pln.ces o l=C:=⟨_,rfl⟩
  rw [hL] at hLs
  rw [hC] at hCs
  obtain⟨la,lk,rfl⟩:=slice_of hLs
  obtain⟨ca9,ck9,rfl⟩:=slice_of hCs
  have hg0:=Hg0.out
  have P1:=P1.out.keep hI.k ⟨by omega,by omega,by omega⟩
  have P2:=P2.out.keep hI.k ⟨by omega,by omega,by omega⟩
  have rP:=HrP.out.keep hI.k ⟨by omega,by omega,by omega⟩
  have t7:=rP.cell 0
  change World.cell? _ _=some _ at t7
  have z0:=ra.cell 0
  change World.cell? _ _=some _ at z0
  have z1:=ra.cell 1
  change World.cell? _ _=some _ at z1
  have z2:=ra.cell 2
  change World.cell? _ _=some _ at z2
  have z3:=ra.cell 3
  change World.cell? _ _=some _ at z3
  have z4:=ra.cell 4
  change World.cell? _ _=some _ at z4
  have z5:=ra.cell 5
  change World.cell? _ _=some _ at z5
  have z6:=ra.cell 6
  change World.cell? _ _=some _ at z6
  have z7:=ra.cell 7
  change World.cell? _ _=some _ at z7
  have y0:=rq.cell 0
  change World.cell? _ _=some _ at y0
  have y1:=rq.cell 1
  change World.cell? _ _=some _ at y1
  have y2:=rq.cell 2
  change World.cell? _ _=some _ at y2
  have r0:=P1.cell 0
  change World.cell? _ _=some _ at r0
  have fr0:=P1.frozen 0
  have r1:=P1.cell 1
  change World.cell? _ _=some _ at r1
  have fr1:=P1.frozen 1
  have r2:=P1.cell 2
  change World.cell? _ _=some _ at r2
  have fr2:=P1.frozen 2
  have s0:=P2.cell 0
  change World.cell? _ _=some _ at s0
  have fs0:=P2.frozen 0
  have s1:=P2.cell 1
  change World.cell? _ _=some _ at s1
  have fs1:=P2.frozen 1
  have s2:=P2.cell 2
  change World.cell? _ _=some _ at s2
  have fs2:=P2.frozen 2
  have s3:=P2.cell 3
  change World.cell? _ _=some _ at s3
  have fs3:=P2.frozen 3
  have s4:=P2.cell 4
  change World.cell? _ _=some _ at s4
  have fs4:=P2.frozen 4
  have s5:=P2.cell 5
  change World.cell? _ _=some _ at s5
  have fs5:=P2.frozen 5
  have s6:=P2.cell 6
  change World.cell? _ _=some _ at s6
  have fs6:=P2.frozen 6
  have hgl:=ra.lt
  have hql:=rq.lt
  have HIk:=Lib.hid hI.k
  have HK:=Lib.hid hK
  have HLs:=Lib.hid hLs
  have HCs:=Lib.hid hCs
  have HN9:=Lib.hid hN9
  have HC9:=Lib.hid hC9
  have HP1:=Lib.hid P1
  have HP2:=Lib.hid P2
  have HQ:=Lib.hid hQ
  have HL:=Lib.hid hL
  have HC:=Lib.hid hC
  have hx1:Row (((W.setCell ⟨h0+1,0,none⟩ (.int .i64 1)).setCell ⟨h0+1,1,none⟩ (.slice la L.length lk)).setCell ⟨h0+1,2,none⟩ (.slice ca9 C.length ck9)) (h0+1) 49 #[.int .i64 1,.slice la L.length lk,.slice ca9 C.length ck9]:=((P1.store 0 _).store 1 _).store 2 _
  have hx2:Row (((W.setCell ⟨h0+1,0,none⟩ (.int .i64 1)).setCell ⟨h0+1,1,none⟩ (.slice la L.length lk)).setCell ⟨h0+1,2,none⟩ (.slice ca9 C.length ck9)) (h0+2) 34 #[.int .i64 0,.string ⟨#[]⟩,.string ⟨#[]⟩,.int .i64 0,.slice none 0 0,.slice none 0 0,.bool false]:=((P2.other (a:=⟨h0+1,0,none⟩) (show h0+2≠h0+1 by omega) _).other (a:=⟨h0+1,1,none⟩) (show h0+2≠h0+1 by omega) _).other (a:=⟨h0+1,2,none⟩) (show h0+2≠h0+1 by omega) _
  have hx3:Keep (fun k=>k≠h0+1∧k≠h0+2) W (((W.setCell ⟨h0+1,0,none⟩ (.int .i64 1)).setCell ⟨h0+1,1,none⟩ (.slice la L.length lk)).setCell ⟨h0+1,2,none⟩ (.slice ca9 C.length ck9)):=(((Keep.refl _ W).setCell (p:=⟨h0+1,0,none⟩) (fun h=>absurd rfl h.1) _).setCell (p:=⟨h0+1,1,none⟩) (fun h=>absurd rfl h.1) _).setCell (p:=⟨h0+1,2,none⟩) (fun h=>absurd rfl h.1) _
  have hy1:=row_put7_other hx1 (show h0+1≠h0+2 by omega) (fun i=>(Orc.vals Q.m Q.key Q.d.tb Q.d.pos (.slice n9 Q.d.nm.length m9) (.slice c9 Q.d.cl.length k9) Q.d.clash).getD i undef)
  have hy2:=row_put7 (v:=fun i=>(Orc.vals Q.m Q.key Q.d.tb Q.d.pos (.slice n9 Q.d.nm.length m9) (.slice c9 Q.d.cl.length k9) Q.d.clash).getD i undef) hx2 rfl
  have hy3:=hx3.trans ((Pln.keep_put7 _ (h0+2) (fun i=>(Orc.vals Q.m Q.key Q.d.tb Q.d.pos (.slice n9 Q.d.nm.length m9) (.slice c9 Q.d.cl.length k9) Q.d.clash).getD i undef)).mono fun k hk _=>hk.2)
  have Hy1:=Lib.hid hy1
  have Hy2:=Lib.hid hy2
  have Hy3:=Lib.hid hy3
  clear hx1 hx2 hx3 hy1 hy2 hy3
  clear hL hC hI hK hLs hCs hN9 hC9 P1 P2 rP ra rq hQ
  go_wp2
  go_cut [6] from 70 to 74 (fun v6 wx=>v6= .int .i64 0∧Row wx (h0+1) 49 #[.int .i64 1,.slice la L.length lk,.slice ca9 C.length ck9]∧Row wx (h0+2) 34 (Orc.vals Q.m Q.key Q.d.tb Q.d.pos (.slice n9 Q.d.nm.length m9) (.slice c9 Q.d.cl.length k9) Q.d.clash)∧Keep (fun k=>k≠h0+1∧k≠h0+2) W wx)
  case first=>
   have hmix:Tryz.prog.follows .mixedOrders=true:=by kernel_rfl
   go_region
   all_goals
    go_wp2
    go_meet
    exact⟨rfl,Hy1.out.drew,Hy2.out.drew,Hy3.out.drew⟩
  case rest=>
   obtain⟨w9,rfl⟩:∃ w9,w9=wc:=⟨_,rfl⟩
   obtain⟨rfl,hq1,hq2,hk9⟩:=hcut
   have hK9:w9.heap[ga+5]? =some (.deferred (some [])):=by
    have h1:=hk9.heap (k:=ga+5) ⟨by omega,by omega⟩ (hz4 ▸ HK.out)
    exact h1
   have hno:=fun k hk2=>And.intro (owns_other HN9.out HP1.out (by decide) k hk2) (owns_other HN9.out HP2.out (by decide) k hk2)
   have hco:=fun k hk2=>And.intro (owns_other HC9.out HP1.out (by decide) k hk2) (owns_other HC9.out HP2.out (by decide) k hk2)
   have hn9:=owns_keep HN9.out hk9 hno
   have hc9:=owns_keep HC9.out hk9 hco
   have hkg:Keep (fun k=>k≠ga+5) w9 (w9.putObj (ga+5) (.deferred none)):=(Keep.refl _ _).putObj (fun h=>absurd rfl h) _
   have hg1:=hq1.keep hkg (show h0+1≠ga+5 by have:=Hg0.out;omega)
   have hg2:=hq2.keep hkg (show h0+2≠ga+5 by have:=Hg0.out;omega)
   have hn10:=owns_keep hn9 hkg (owns_obj hn9 hK9 (by intro cs T z e;cases e))
   have hc10:=owns_keep hc9 hkg (owns_obj hc9 hK9 (by intro cs T z e;cases e))
   have hl10:StrAt (w9.putObj (ga+5) (.deferred none)) (ga+7) (.slice la L.length lk) L:=owns_keep (owns_keep HLs.out hk9 (fun k hk2=>by have:=(HLs.out.lt k hk2).1;have:=Hg0.out;omega)) hkg (fun k hk2=>by have:=(HLs.out.lt k hk2).1;omega)
   have hs10:StrAt (w9.putObj (ga+5) (.deferred none)) (ga+7) (.slice ca9 C.length ck9) C:=owns_keep (owns_keep HCs.out hk9 (fun k hk2=>by have:=(HCs.out.lt k hk2).1;have:=Hg0.out;omega)) hkg (fun k hk2=>by have:=(HCs.out.lt k hk2).1;omega)
   have hbb:Below w.heap.size w (w9.putObj (ga+5) (.deferred none)):=by
    have hg3:=Hg0.out
    have b1:Keep (fun k=>k<h0) w W4:=Keep.below Hb04.out
    have b2:Keep (fun k=>k<h0) W4 W:=HIk.out.mono fun k hk _=>⟨by omega,by omega,by omega⟩
    have b3:Keep (fun k=>k<h0) W w9:=hk9.mono fun k hk _=>⟨by omega,by omega⟩
    have b4:Keep (fun k=>k<h0) w9 (w9.putObj (ga+5) (.deferred none)):=hkg.mono fun k hk _=>by omega
    exact(((b1.trans b2).trans b3).trans b4).toBelow fun k hk=>by omega
   have HK9:=Lib.hid hK9
   have Hg1:=Lib.hid hg1
   have Hg2:=Lib.hid hg2
   have Hn10:=Lib.hid hn10
   have Hc10:=Lib.hid hc10
   have Hl10:=Lib.hid hl10
   have Hs10:=Lib.hid hs10
   have Hbb:=Lib.hid hbb
   clear hK9 hno hco hn9 hc9 hg1 hg2 hn10 hc10 hl10 hs10 hbb hq1 hq2 hk9
   go_wp2
   rw [hz4]
   refine⟨by simp,.inl ⟨_,_,rfl,run_takeDeferred HK9.out,?_⟩⟩
   refine⟨_,results_cct (g:=h0+1) (g':=h0+2) (t:=49) (t':=34) _ _ rfl rfl Hg1.out Tryz.underlying49 rfl (by kernel_rfl) rfl Hg2.out Tryz.underlying34 rfl (by kernel_rfl),?_⟩
   unfold Pln.PutRes
   rw [HQ.out,HL.out,HC.out]
   exact⟨_,_,_,_,rfl,ownsRow_weak Hl10.out (by have:=Hg0.out;omega),ownsRow_weak Hs10.out (by have:=Hg0.out;omega),Hn10.out,Hc10.out,Hbb.out⟩
 case body=>
  intro lp pre x rest W hxs hz hi hmid
  obtain⟨hl,hx2⟩:=Pln.prs_at hxs
  have hf:=Hfit.out
  rw [hl] at hf
  have hgP:=Pln.all_good hg (Pln.fits_take hf).1
  have hfit2:=(Pln.fits_at hf).1
  have hone:=Pln.one_good hgP hfit2
  have hask:=Orc.ask_step hgP x.1.q hfit2.1.1.q hfit2.1.2.1 hfit2.1.2.2
  have hc:=fun W5 hR5 hA5=>cellOf_any ((Pln.all o (pre.map (·.1))).ask x.1.q) hone.1 x.1 hfit2.1.1 (Pln.lb (Pln.all o (pre.map (·.1))) x.1) hone.2.2.1 (by rw [hask.2.2.2.2.1];exact hfit2.2.1) (by intro h;rw [hask.2.2.2.1];exact hfit2.2.2 h) ga W5 hR5 hA5
  have hlast:(Pln.all o (pre.map (·.1))).ask x.1.q=(Pln.all o (pre.map (·.1))).ask x.1.q:=rfl
  have hall:Pln.all o ((pre++[x]).map (·.1))=((Pln.all o (pre.map (·.1))).ask x.1.q).put (Pln.lb (Pln.all o (pre.map (·.1))) x.1) x.1.tx:=by rw [List.map_append];exact Pln.all_snoc _ _ _
  have hcea:Pln.ces o ((pre++[x]).map (·.1))=Pln.ces o (pre.map (·.1))++[Pln.ce (Pln.all o (pre.map (·.1))) x.1]:=by rw [List.map_append,Pln.ces_append];rfl
  have hCs:∀ a∈Pln.ces o (pre.map (·.1)),a.size≠16:=fun a ha=>by rw [Pln.ces_size hg (Pln.fits_take hf).1 a ha];decide
  have hLs:∀ a∈pre.map (·.2),a.size=16:=fun a ha=>by
   obtain⟨z,hz,rfl⟩:=List.mem_map.1 ha
   exact Pln.prs_size hg Hfit.out z (by rw [hxs];exact List.mem_append_left _ hz)
  have HCs:=Lib.hid hCs
  have HLs:=Lib.hid hLs
  clear hCs hLs
  have hs16:=hone.2.2.1
  have hc40:=hone.2.2.2
  have hpl:pre.length+1≤200:=by have h1:=congrArg List.length hl;rw [List.length_append,List.length_cons,List.length_map] at h1;omega
  rw [← hx2] at hc hall hs16
  change ∀ W5,_→_→Calls _ _ _ W5 fun e w'=>e= .returned (.tuple #[.string (((Pln.all o (pre.map (·.1))).ask x.1.q).wayC x.2 x.1.tx).1,.bool true])∧_ at hc
  obtain⟨cc,hcc⟩:∃ cc,Pln.ce (Pln.all o (pre.map (·.1))) x.1=cc:=⟨_,rfl⟩
  rw [show (((Pln.all o (pre.map (·.1))).ask x.1.q).wayC x.2 x.1.tx).1=cc by rw [← hcc,hx2];rfl] at hc
  rw [hcc] at hcea hc40
  obtain⟨Q1,hQ1⟩:∃ Q1,((Pln.all o (pre.map (·.1))).ask x.1.q).put x.2 x.1.tx=Q1:=⟨_,rfl⟩
  rw [hQ1] at hc hall
  obtain⟨QA,hQA⟩:∃ QA,(Pln.all o (pre.map (·.1))).ask x.1.q=QA:=⟨_,rfl⟩
  simp only [hQA] at hc hmid ⊢
  obtain⟨pz,hpz⟩:∃ pz,W.heap.size=pz:=⟨_,rfl⟩
  have hpz7:ga+7≤pz:=by omega
  have Hc:=Lib.hid hc
  have Hall:=Lib.hid hall
  have Hcea:=Lib.hid hcea
  have Hs16:=Lib.hid hs16
  have Hc40:=Lib.hid hc40
  have Hi:=Lib.hid hi
  have Hmid:=Lib.hid hmid
  have Hxs:=Lib.hid hxs
  have Hpl:=Lib.hid hpl
  have hb6:=(Below.refl W.heap.size W).alloc (Nat.le_refl _) (.cells #[.string x.1.word,.int .i64 (x.1.ep:Int),.int .i64 (x.1.ct:Int),.int .i64 (x.1.kind:Int),.int .i64 (x.1.id:Int)] 27)
  have rp:=Row.new W 27 #[.string x.1.word,.int .i64 (x.1.ep:Int),.int .i64 (x.1.ct:Int),.int .i64 (x.1.kind:Int),.int .i64 (x.1.id:Int)]
  rw [hpz] at rp
  have Hb6:=Lib.hid hb6
  have Rp:=Lib.hid rp
  clear hc hall hcea hs16 hc40 hi hmid hxs hpl hb6 rp hl hx2 hf hgP hfit2 hone hask hlast hcc hQ1 hQA hz
  dsimp only [Pln.encP,Pln.Pst.cells]
  gi_wp2
  refine⟨(Keep.below (S:=fun _=>True) Hb6.out).mono fun _ _ _=>trivial,Hmid.out.below Hb6.out,fun W3 hk3 hz3 hmid3=> ?_⟩
  change Keep (fun k=>k≠ga+6) _ W3 at hk3
  have hk3':Keep (fun k=>k≠ga+6) W W3:=(((Keep.refl _ W).alloc _).trans hk3)
  have rp3:=Rp.out.keep hk3 (by omega)
  have hi3:=Hi.out.keep hk3' (fun k _ _ h=>h)
  have rP3:=HrP.out.keep hi3.k ⟨by omega,by omega,by omega⟩
  have hR3:=HR4.out.keep hi3.k ⟨by omega,by have:=Hg0.out;omega,by omega⟩
  have hzz:pz+1≤W3.heap.size:=Nat.le_of_eq hz3.symm
  have t7:=rP3.cell 0
  change World.cell? _ _=some _ at t7
  have q0:=rp3.cell 0
  change World.cell? _ _=some _ at q0
  have q1:=rp3.cell 1
  change World.cell? _ _=some _ at q1
  have q2:=rp3.cell 2
  change World.cell? _ _=some _ at q2
  have q3:=rp3.cell 3
  change World.cell? _ _=some _ at q3
  have q4:=rp3.cell 4
  change World.cell? _ _=some _ at q4
  have hcall:=Hc.out W3 hR3 hmid3
  have Hcall:=Lib.hid hcall
  have Hi3:=Lib.hid hi3
  have HR3:=Lib.hid hR3
  have Hzz:=Lib.hid hzz
  clear hcall hi3 hR3 hk3 hk3' rp3 rP3 hmid3 hz3 Hc Hmid Hb6 Rp Hi hzz
  unfold Pln.Pst.cells at Hcall
  gi_wp2_with (refine⟨trivial,?_⟩;gi_at_call 45;refine(CallsIn.inRound lp (callsIn_wide.2 Hcall.out)).mono ?_;rintro e w5 ⟨rfl,hA5,hk5⟩)
  -- region 12 begins
  obtain⟨lv,cv,rq3,hL3,hC3,hap⟩:=Hi3.out.s
  have rq5:=rq3.keep hk5 (by omega)
  have hL5:StrAt w5 (ga+7) lv (pre.map (·.2)):=owns_keep hL3 hk5 (fun k hk2=>by have:=(hL3.lt k hk2).1;omega)
  have hC5:StrAt w5 (ga+7) cv (Pln.ces o (pre.map (·.1))):=owns_keep hC3 hk5 (fun k hk2=>by have:=(hC3.lt k hk2).1;omega)
  obtain⟨la,lk,rfl⟩:=slice_of hL5
  obtain⟨ca5,ck5,rfl⟩:=slice_of hC5
  have hLl:(pre.map (·.2)).length=pre.length:=List.length_map _
  have hCl:(Pln.ces o (pre.map (·.1))).length=pre.length:=by rw [Pln.ces_length,List.length_map]
  obtain⟨L,hLe⟩:∃ L,pre.map (·.2)=L:=⟨_,rfl⟩
  obtain⟨C,hCe⟩:∃ C,Pln.ces o (pre.map (·.1))=C:=⟨_,rfl⟩
  rw [hLe] at hL5 hLl
  rw [hCe] at hC5 hCl
  simp only [hLe,hCe] at rq5 hap
  have hz5:ga+7≤w5.heap.size:=by have:=Hzz.out;have:=hk5.size;omega
  have hB0:∀ y,Pln.PutB w5 (ga+2) ga (ga+7) Q1 (.slice la L.length lk) (.slice ca5 C.length ck5) L C 0 y w5.drew:=fun y=>⟨⟨(Keep.refl _ w5).drew,hA5.below (Below.refl _ w5).drew,rq5.drew⟩,fun _=>hL5,fun _=>hC5,Nat.le_refl _⟩
  have hlvb:∀ g,(Value.slice la L.length lk).ownBlock=some g→g<w5.heap.size:=fun g e=>(hL5.lt g e).2
  have hcvb:∀ g,(Value.slice ca5 C.length ck5).ownBlock=some g→g<w5.heap.size:=fun g e=>(hC5.lt g e).2
  obtain⟨i0,hi0,hz0,hz1,hz2⟩:=info_parts infoStr
  have hpl:=Hpl.out
  have Hk35:=Lib.hid hk5
  have HLe:=Lib.hid hLe
  have HCe:=Lib.hid hCe
  have HLl:=Lib.hid hLl
  have HCl:=Lib.hid hCl
  have HB0:=Lib.hid hB0
  clear hL3 hC3 hL5 hC5 rq3 rq5 hA5 hk5 t7 q0 q1 q2 q3 q4 Hcall hLe hCe hLl hCl hB0
  refine wpIn_round_any (by kernel_rfl) (by kernel_rfl) ?_
  refine wpAny_phases 14 [4,9,11,13] [46,47,48,49,50,51,52,53,54,55,56,100000,57,100001] 0 #[true,true,true,true,true,true,true,true,true,true,true,true,true,true] (Pln.PutB w5 (ga+2) ga (ga+7) Q1 (.slice la L.length lk) (.slice ca5 C.length ck5) L C) (Pln.PutR w5 (ga+2) (ga+7) (.slice la L.length lk) (.slice ca5 C.length ck5) x.2 cc L C) 75 (by kernel_rfl) (by kernel_rfl) (by kernel_rfl) (by kernel_rfl) (fun b j v w w' h hb=>Pln.PutR.below hb j h) HB0.out (fun b x y w w' h he hb=>h.below he hb) ?_ ?_ ?_
  · refine PSteps.upto 2 11 rfl rfl (by kernel_rfl) (fun b y W ρ hb hB hdep hin hout hcon hfun=> ?_) (PSteps.upto 0 4 rfl rfl (by kernel_rfl) (fun b y W ρ hb hB hdep hin hout hcon hfun=> ?_) (PSteps.upto 2 11 rfl rfl (by kernel_rfl) (fun b y W ρ hb hB hdep hin hout hcon hfun=> ?_) (PSteps.upto 0 4 rfl rfl (by kernel_rfl) (fun b y W ρ hb hB hdep hin hout hcon hfun=> ?_) (PSteps.skip (by decide) (PSteps.upto 2 11 rfl rfl (by kernel_rfl) (fun b y W ρ hb hB hdep hin hout hcon hfun=> ?_) (PSteps.upto 1 9 rfl rfl (by kernel_rfl) (fun b y W ρ hb hB hdep hin hout hcon hfun=> ?_) (PSteps.upto 3 13 rfl rfl (by kernel_rfl) (fun b y W ρ hb hB hdep hin hout hcon hfun=> ?_) (PSteps.upto 1 9 rfl rfl (by kernel_rfl) (fun b y W ρ hb hB hdep hin hout hcon hfun=> ?_) (PSteps.skip (by decide) (PSteps.upto 2 11 rfl rfl (by kernel_rfl) (fun b y W ρ hb hB hdep hin hout hcon hfun=> ?_) (PSteps.skip (by decide) (PSteps.upto 3 13 rfl rfl (by kernel_rfl) (fun b y W ρ hb hB hdep hin hout hcon hfun=> ?_) (PSteps.skip (by decide) (PSteps.nil (by decide)))))))))))))))
    · skip
      have e8:=hout 8 (by decide)
      change ρ (.tmp 8)= .pointer (some ⟨ga+2,0,none⟩) at e8
      clear hdep hin hout
      refine Stepped.val ?_ rfl
      go_simp
    · skip
      have d0:=hdep ⟨0,.data⟩ (by simp) rfl
      have e46:=hin 0 46 rfl (by decide)
      rw [show y 0=_ from d0] at e46
      obtain rfl:b=0:=by omega
      have c1:W.cell? ⟨ga+2,1,none⟩=some (.slice la L.length lk):=hB.1.r.cell 1
      clear hdep hin hout
      refine Stepped.val ?_ rfl
      go_simp
    · skip
      have e10:=hout 10 (by decide)
      change ρ (.tmp 10)= .string x.2 at e10
      clear hdep hin hout
      refine Stepped.val ?_ rfl
      go_simp
    · skip
      have d2:=hdep ⟨2,.data⟩ (by simp) rfl
      have e48:=hin 2 48 rfl (by decide)
      rw [show y 2=_ from d2] at e48
      clear hdep hin hout
      refine Stepped.grow (v:= .slice (some ⟨W.heap.size,0,none⟩) 1 1) (w':=W.alloc (.cells #[.string x.2] 9)) ?_ ((Below.refl _ _).alloc (Nat.le_refl _) _) ⟨W.heap.size,hB.2.2.2,rfl,fun _=>(Row.new W 9 #[.string x.2]).cell 0⟩
      go_simp
    · skip
      have e8:=hout 8 (by decide)
      change ρ (.tmp 8)= .pointer (some ⟨ga+2,0,none⟩) at e8
      clear hdep hin hout
      refine Stepped.val ?_ rfl
      go_simp
    · skip
      have d5:=hdep ⟨5,.data⟩ (by simp) rfl
      have e51:=hin 5 51 rfl (by decide)
      rw [show y 5=_ from d5] at e51
      have c2:W.cell? ⟨ga+2,2,none⟩=some (.slice ca5 C.length ck5):=by
       have h2:=hB.1.r.cell 2
       rcases (by omega:b=0∨b=1) with rfl | rfl <;> exact h2
      clear hdep hin hout
      refine Stepped.val ?_ rfl
      go_simp
    · skip
      have e11:=hout 11 (by decide)
      change ρ (.tmp 11)= .string cc at e11
      clear hdep hin hout
      refine Stepped.val ?_ rfl
      go_simp
    · skip
      have d7:=hdep ⟨7,.data⟩ (by simp) rfl
      have e53:=hin 7 53 rfl (by decide)
      rw [show y 7=_ from d7] at e53
      clear hdep hin hout
      refine Stepped.grow (v:= .slice (some ⟨W.heap.size,0,none⟩) 1 1) (w':=W.alloc (.cells #[.string cc] 9)) ?_ ((Below.refl _ _).alloc (Nat.le_refl _) _) ⟨W.heap.size,hB.2.2.2,rfl,fun _=>(Row.new W 9 #[.string cc]).cell 0⟩
      go_simp
    · skip
      have e8:=hout 8 (by decide)
      change ρ (.tmp 8)= .pointer (some ⟨ga+2,0,none⟩) at e8
      clear hdep hin hout
      refine Stepped.val ?_ rfl
      go_simp
    · skip
      have e8:=hout 8 (by decide)
      change ρ (.tmp 8)= .pointer (some ⟨ga+2,0,none⟩) at e8
      clear hdep hin hout
      refine Stepped.val ?_ rfl
      go_simp
  · intro k
    rcases k with _ | _ | _ | _ | k
    · intro s hs oo ho y W ρ hB hdep hin hout hcon
      cases hs
      cases ho
      have d1:=hdep ⟨1,.data⟩ (by simp) rfl
      obtain⟨g,hg1,dg,hgc⟩:=hdep ⟨3,.data⟩ (by simp) rfl
      have hgc:=hgc (by decide)
      have el:=hin 1 47 rfl (by decide)
      have es:=hin 3 49 rfl (by decide)
      rw [show y 1=_ from d1] at el
      rw [show y 3=_ from dg] at es
      have hbs:ga+7≤W.heap.size:=Nat.le_trans hz5 hB.2.2.2
      have hll:=HLl.out
      obtain⟨v',W',hrun,hown,hgr,-,hat⟩:=run_append_own_at (P:=Tryz.prog) (w:=W) (ga+7) 43 43 9 i0 (.string ⟨#[]⟩) 1 16 Tryz.underlying43 hi0 hz0 hz1 hz2 rfl (by decide) (.slice la L.length lk) L.length (L.map .string) (hB.2.1 rfl) ⟨g,0,none⟩ 1 1 [.string x.2] rfl (fun j u hu=>by
       rcases j with _ | j
       · simp only [List.getElem?_cons_zero,Option.some.injEq] at hu
         subst hu
         exact hgc
       · simp at hu) (by simp [Value.oneCell']) (by rw [hll];unfold maxLen;omega) (by rw [hll];omega) hbs
      refine⟨v',W',.inl ?_,Pln.put_turn0 (by omega) (by omega) hlvb hcvb hap hB hown hgr hat⟩
      clear hdep hin hout hB hown hgr hat hgc hll
      exact append_run (.tmp 47) (.tmp 49) _ rfl el es hrun
    · intro s hs oo ho y W ρ hB hdep hin hout hcon
      cases hs
      cases ho
      have d6:=hdep ⟨6,.data⟩ (by simp) rfl
      obtain⟨g,hg1,dg,hgc⟩:=hdep ⟨8,.data⟩ (by simp) rfl
      have hgc:=hgc (by decide)
      have el:=hin 6 52 rfl (by decide)
      have es:=hin 8 54 rfl (by decide)
      rw [show y 6=_ from d6] at el
      rw [show y 8=_ from dg] at es
      have hbs:ga+7≤W.heap.size:=Nat.le_trans hz5 hB.2.2.2
      have hll:=HCl.out
      obtain⟨v',W',hrun,hown,hgr,-,hat⟩:=run_append_own_at (P:=Tryz.prog) (w:=W) (ga+7) 43 43 9 i0 (.string ⟨#[]⟩) 1 16 Tryz.underlying43 hi0 hz0 hz1 hz2 rfl (by decide) (.slice ca5 C.length ck5) C.length (C.map .string) (hB.2.2.1 (by decide)) ⟨g,0,none⟩ 1 1 [.string cc] rfl (fun j u hu=>by
       rcases j with _ | j
       · simp only [List.getElem?_cons_zero,Option.some.injEq] at hu
         subst hu
         exact hgc
       · simp at hu) (by simp [Value.oneCell']) (by rw [hll];unfold maxLen;omega) (by rw [hll];omega) hbs
      refine⟨v',W',.inl ?_,Pln.put_turn1 (by omega) (by omega) hB hown hgr⟩
      clear hdep hin hout hB hown hgr hat hgc hll
      exact append_run (.tmp 52) (.tmp 54) _ rfl el es hrun
    · intro s hs oo ho y W ρ hB hdep hin hout hcon
      cases hs
      cases ho
      have dp:=hdep ⟨10,.data⟩ (by simp) rfl
      have dv:=hdep ⟨4,.data⟩ (by simp) rfl
      have ep:=hin 10 56 rfl (by decide)
      have ev:=hin 4 50 rfl (by decide)
      rw [show y 10=_ from dp] at ep
      have hc:=hB.1.r.cell 1
      change World.cell? _ _=some _ at hc
      have hf:=hB.1.r.frozen 1
      obtain⟨a9,k9,hv9⟩:=dv.2.1
      have hT:=Pln.put_turn2 (lv:= .slice la L.length lk) (cv:= .slice ca5 C.length ck5) (s:=x.2) (c:=cc) (L:=L) (C:=C) (by omega) (by omega) undef hB
      refine⟨undef,W.setCell ⟨ga+2,1,none⟩ (y 4),.inr ⟨?_,rfl⟩,hT.1,trivial,fun j _ h=>hT.2 j h⟩
      clear hdep hin hout hT dv
      rw [hv9] at ev ⊢
      go_simp
    · intro s hs oo ho y W ρ hB hdep hin hout hcon
      cases hs
      cases ho
      have dp:=hdep ⟨12,.data⟩ (by simp) rfl
      have dv:=hdep ⟨9,.data⟩ (by simp) rfl
      have ep:=hin 12 57 rfl (by decide)
      have ev:=hin 9 55 rfl (by decide)
      rw [show y 12=_ from dp] at ep
      have hc:=hB.1.r.cell 2
      change World.cell? _ _=some _ at hc
      have hf:=hB.1.r.frozen 2
      obtain⟨a9,k9,hv9⟩:=dv.2.1
      have hT:=Pln.put_turn3 (lv:= .slice la L.length lk) (cv:= .slice ca5 C.length ck5) (s:=x.2) (c:=cc) (L:=L) (C:=C) (by omega) (by omega) undef hB
      refine⟨undef,W.setCell ⟨ga+2,2,none⟩ (y 9),.inr ⟨?_,rfl⟩,hT.1,trivial,fun j _ h=>hT.2 j h⟩
      clear hdep hin hout hT dv
      rw [hv9] at ev ⊢
      go_simp
    · intro s hs
      cases hs
  · intro y W hB hR
    have d4:=hR 4 (by decide)
    have d9:=hR 9 (by decide)
    refine wpAny_done (by kernel_rfl) ?_ _
    refine⟨rfl,?_⟩
    obtain⟨hP,-,-,hz9⟩:=hB
    have hs1:StrAt W (ga+7) (y 4) (L++[x.2]):=d4.2.2.1
    have hs2:StrAt W (ga+7) (y 9) (C++[cc]):=d9.2.2
    have hap2:∀ g,(y 9).ownBlock=some g→(y 4).ownBlock≠some g:=by
     refine str_apart2 hs2 hs1 (fun a ha=> ?_) (fun a ha=> ?_) (fun e=>by simp at e) (fun e=>by simp at e)
     · rcases List.mem_append.1 ha with ha | ha
       · rw [← HCe.out] at ha
         exact HCs.out a ha
       · rw [List.mem_singleton] at ha
         rw [ha,Hc40.out]
         decide
     · rcases List.mem_append.1 ha with ha | ha
       · rw [← HLe.out] at ha
         exact HLs.out a ha
       · rw [List.mem_singleton] at ha
         rw [ha]
         exact Hs16.out
    have hkk:Keep (fun k=>¬(k=ga∨k=ga+2∨ga+7≤k)) W3 W:=(Hk35.out.mono fun k hk _ e=>hk (.inl e)).trans (hP.k.mono fun k hk _=>⟨by omega,by omega⟩)
    refine⟨hkk,⟨⟨y 4,y 9,hP.r,?_,?_,hap2⟩,Hi3.out.k.trans (hkk.mono fun k hk _=>by omega)⟩,?_⟩
    · rw [List.map_append,HLe.out]
      exact hs1
    · rw [Hcea.out,HCe.out]
      exact hs2
    · show Pln.AskHeld W ga (Pln.all o ((pre++[x]).map (·.1)))
      rw [Hall.out]
      exact hP.a
  -- region 12 ends
end Go.Proofs.YtpnbkfboneabaaaGreat
namespace Go.Proofs.YtpnbkfboneabaaaGreat
open Go.RowKit
section
variable {P:Program} {fn:Func} {ty ty':TypeId} (tmps:Array Value) (w:World) {g g':Nat} {t':TypeId} {cs':Array Value} {d':TypeDesc}
theorem run_loadVar_one {v:Value} (ha:∀ w,(isAgg ty).run P w= .ok false w) (hc:w.cell? ⟨g,0,none⟩=some v):(loadVar ty ⟨g,0,none⟩).run P w= .ok v w:=by
 unfold loadVar
 simp [go_sem,ha,hc]
theorem results_sct {p p' k:Tmp} {v:Value} (h:fn.results=#[.cell p ty,.cell p' ty',.tmp k]) (hp:tmps.getD p undef= .pointer (some ⟨g,0,none⟩)) (hc:w.cell? ⟨g,0,none⟩=some v) (ha:∀ w,(isAgg ty).run P w= .ok false w)
 (hp':tmps.getD p' undef= .pointer (some ⟨g',0,none⟩)) (hg':Row w g' t' cs')
 (hu':P.underlying ty'=some d') (hd':(match d' with | .struct _ | .array _ _=>true | _=>false)=true) (hi':(P.info? ty').map (·.size)=some cs'.size):
 (results fn tmps).run P w= .ok (.tuple #[v,.agg cs',tmps.getD k undef]) w:=by
 have h1:tmps[p]?.getD undef= .pointer (some ⟨g,0,none⟩):=by simpa using hp
 have h2:tmps[p']?.getD undef= .pointer (some ⟨g',0,none⟩):=by simpa using hp'
 simp [results,h,h1,h2,asAddr,run_loadVar_row w g' t' ty' cs' (0,0) d' hg' hu' hd' hi',run_loadVar_one w ha hc]
end
namespace Pln
structure LbsI (ga h0:Nat) (W4:World) (pre:List (Pst × ByteArray)) (W:World):Prop where
 s:∃ lv,Row W (h0+1) 43 #[lv]∧StrAt W (ga+5) lv (pre.map (·.2))
 k:Keep (fun k=>k<ga+3∧k≠ga∧k≠h0+1) W4 W
theorem LbsI.keep {ga h0:Nat} {W4:World} {pre:List (Pst × ByteArray)} {W W':World} {S:Nat→Prop} (h:LbsI ga h0 W4 pre W) (hh:h0+1<ga) (hk:Keep S W W') (hS:∀ k,k≠ga→k≠ga+3→k≠ga+4→S k):LbsI ga h0 W4 pre W':=by
 obtain⟨lv,h1,h2⟩:=h.s
 exact⟨⟨lv,h1.keep hk (hS _ (by omega) (by omega) (by omega)),owns_keep h2 hk (fun k hk2=>by have:=(h2.lt k hk2).1;exact hS k (by omega) (by omega) (by omega))⟩,h.k.trans (hk.mono fun k hk2 _=>hS k hk2.2.1 (by omega) (by omega))⟩
def LbsRes [Sha.Words] (o:Orc) (l:List Pst) (w:World) (e:Ending) (w':World):Prop:=
 ∃ lv nv' cv',e= .returned (.tuple #[lv,(asks o l).agg nv' cv',.int .i64 0])∧StrAt w' w.heap.size lv ((als o l).map (·.2))∧NmAt w' 0 nv' (asks o l).d.nm∧ClAt w' 0 cv' (asks o l).d.cl∧Below w.heap.size w w'
end Pln
attribute [local go_sem] Oper.semAt_some
theorem labels_any [Sha.Words] (o:Orc) (hg:o.Good) (nv cv:Value) (l:List Pln.Pst) (v:Value) (hlen:l.length≤100000) (hfit:Pln.FitsA o l) (w:World) (hR:Sha.RoundIn w) (hN:NmAt w 0 nv o.d.nm) (hC:ClAt w 0 cv o.d.cl) (hp:Pln.PostsAt w v l):
 Calls Tryz.prog 24 #[o.agg nv cv,v] w (Pln.LbsRes o l w):=by
 obtain⟨h0,hh0⟩:∃ h0,w.heap.size=h0:=⟨_,rfl⟩
 obtain⟨na,nk,rfl⟩:=slice_of hN
 obtain⟨ca,ck,rfl⟩:=slice_of hC
 have hp2:=hp
 obtain⟨ao,cap,rfl,hlm,hpc⟩:=hp
 have hpn:∀ ad n c,Value.slice ao l.length cap= .slice (some ad) n c→0<n→ad.block<h0:=by
  intro ad n c e hn
  injection e with e1 e2 _
  obtain⟨b,po,h1,h2⟩:=hpc 0 l[0] (List.getElem?_eq_getElem (by omega))
  rw [h1] at e1
  injection e1 with e1
  have h3:b<w.heap.size:=lt_of_cell (h2 0 _ rfl)
  rw [← e1]
  show b<h0
  omega
 have hRi:=fun W (hb:Below w.heap.size w W)=>oracleRight_all o hg (.slice na o.d.nm.length nk) (.slice ca o.d.cl.length ck) W (owns_below hN hb) (owns_below hC hb)
 have hOw:=fun W (hb:Below w.heap.size w W)=>ownPln_any o.m o.key o.d.tb o.d.pos (.slice na o.d.nm.length nk) (.slice ca o.d.cl.length ck) o.d.clash o.d (by have:=hg.d.nms;omega) (by have:=hg.d.cls;omega) W (owns_below hN hb) (owns_below hC hb)
 unfold Orc.agg Orc.vals at hRi
 unfold Orc.vals at hOw
 have HRi:=Lib.hid hRi
 have HOw:=Lib.hid hOw
 have HR:=Lib.hid hR
 have Hp:=Lib.hid hp2
 have Hpn:=Lib.hid hpn
 have Hfit:=Lib.hid hfit
 have Hlm:=Lib.hid hlm
 clear hRi hOw hR hp2 hpn hfit hlm hpc hN hC
 unfold Orc.agg Orc.vals
 refine(callsIn_wide (n:=9)).1 ?_
 refine callsIn_of_wp_marks Tryz.func24 rfl trivial ?_ rfl
 simp only [Tryz.ntmps24,List.size_toArray,List.length_cons,List.length_nil,Nat.reduceAdd,Nat.reduceSub,Array.replicate_succ,Array.replicate_zero,List.push_toArray,List.append_toArray,List.nil_append,List.cons_append]
 refine wpIn_wide.2 ?_
 have hb1:Below w.heap.size w (((w.alloc (.cells #[.int .i64 o.m,.string o.key,.string o.d.tb,.int .i64 (o.d.pos:Int),.slice na o.d.nm.length nk,.slice ca o.d.cl.length ck,.bool o.d.clash] 34)).alloc (.cells #[.slice none 0 0] 43)).alloc (.cells orcZ 34)):=
  (((Below.refl _ w).alloc (Nat.le_refl _) _).alloc (by simp) _).alloc (by simp;omega) _
 unfold orcZ at hb1
 have Hb1:=Lib.hid hb1
 clear hb1
 go_wp2_with fail
 refine(HRi.out _ Hb1.out).mono ?_
 rintro e w2 ⟨rfl,hb2⟩
 have hb02:=Hb1.out.trans (hb2.mono Hb1.out.size)
 have p0:Row w2 h0 34 #[.int .i64 o.m,.string o.key,.string o.d.tb,.int .i64 (o.d.pos:Int),.slice na o.d.nm.length nk,.slice ca o.d.cl.length ck,.bool o.d.clash]:=by
  have h1:=((Row.new w 34 #[.int .i64 o.m,.string o.key,.string o.d.tb,.int .i64 (o.d.pos:Int),.slice na o.d.nm.length nk,.slice ca o.d.cl.length ck,.bool o.d.clash]).alloc (.cells #[.slice none 0 0] 43)).alloc (.cells #[.int .i64 0,.string ⟨#[]⟩,.string ⟨#[]⟩,.int .i64 0,.slice none 0 0,.slice none 0 0,.bool false] 34)
  rw [hh0] at h1
  exact h1.below hb2 h1.lt
 have p1:Row w2 (h0+1) 43 #[.slice none 0 0]:=by
  have h1:=(Row.new (w.alloc (.cells #[.int .i64 o.m,.string o.key,.string o.d.tb,.int .i64 (o.d.pos:Int),.slice na o.d.nm.length nk,.slice ca o.d.cl.length ck,.bool o.d.clash] 34)) 43 #[.slice none 0 0]).alloc (.cells #[.int .i64 0,.string ⟨#[]⟩,.string ⟨#[]⟩,.int .i64 0,.slice none 0 0,.slice none 0 0,.bool false] 34)
  rw [World.size_alloc,hh0] at h1
  exact h1.below hb2 h1.lt
 have p2:Row w2 (h0+2) 34 #[.int .i64 0,.string ⟨#[]⟩,.string ⟨#[]⟩,.int .i64 0,.slice none 0 0,.slice none 0 0,.bool false]:=by
  have h1:=Row.new ((w.alloc (.cells #[.int .i64 o.m,.string o.key,.string o.d.tb,.int .i64 (o.d.pos:Int),.slice na o.d.nm.length nk,.slice ca o.d.cl.length ck,.bool o.d.clash] 34)).alloc (.cells #[.slice none 0 0] 43)) 34 #[.int .i64 0,.string ⟨#[]⟩,.string ⟨#[]⟩,.int .i64 0,.slice none 0 0,.slice none 0 0,.bool false]
  rw [World.size_alloc,World.size_alloc,hh0] at h1
  exact h1.below hb2 h1.lt
 have u0:=p0.cell 0
 change World.cell? _ _=some _ at u0
 have u1:=p0.cell 1
 change World.cell? _ _=some _ at u1
 have u2:=p0.cell 2
 change World.cell? _ _=some _ at u2
 have u3:=p0.cell 3
 change World.cell? _ _=some _ at u3
 have u4:=p0.cell 4
 change World.cell? _ _=some _ at u4
 have u5:=p0.cell 5
 change World.cell? _ _=some _ at u5
 have u6:=p0.cell 6
 change World.cell? _ _=some _ at u6
 have P1:=Lib.hid p1
 have P2:=Lib.hid p2
 have Hb02:=Lib.hid hb02
 clear p0 p1 p2 hb02 hb2 Hb1 HRi
 go_wp2_with fail
 refine(HOw.out _ Hb02.out).mono ?_
 rintro e w3 ⟨nv3,cv3,rfl,hN3,hC3,hb3⟩
 obtain⟨n3,m3,rfl⟩:=slice_of hN3
 obtain⟨c3,k3,rfl⟩:=slice_of hC3
 have hb03:=Hb02.out.trans (hb3.mono Hb02.out.size)
 have P1:=Lib.hid (P1.out.below hb3 P1.out.lt)
 have P2:=Lib.hid (P2.out.below hb3 P2.out.lt)
 obtain⟨ga,hga⟩:∃ ga,w3.heap.size=ga:=⟨_,rfl⟩
 have hg0:h0+3≤ga:=by have:=P2.out.lt;omega
 have HN3:=Lib.hid hN3
 have HC3:=Lib.hid hC3
 have Hb03:=Lib.hid hb03
 clear hN3 hC3 hb03 hb3 Hb02 HOw u0 u1 u2 u3 u4 u5 u6
 go_wp2_with (go_at_call 44;refine(labelsOf_any _ _ _ _ _).mono ?_;rintro e w9 ⟨rfl,rfl⟩)
 obtain⟨W4,hW4⟩:∃ W4,((w3.alloc (.cells #[.int .i64 o.m,.string o.key,.string o.d.tb,.int .i64 (o.d.pos:Int),.slice n3 o.d.nm.length m3,.slice c3 o.d.cl.length k3,.bool o.d.clash,.int .i64 0] 94)).alloc (.cells #[.pointer (some ⟨ga,0,none⟩)] 92)).alloc (.cells #[.slice ao l.length cap] 36)=W4:=⟨_,rfl⟩
 have hz4:W4.heap.size=ga+3:=by rw [← hW4,← hga];simp
 have hk34:Below w3.heap.size w3 W4:=by
  rw [← hW4]
  exact(((Below.refl _ w3).alloc (Nat.le_refl _) _).alloc (by simp) _).alloc (by simp;omega) _
 have hb04:Below w.heap.size w W4:=Hb03.out.trans (hk34.mono Hb03.out.size)
 have rA:Row W4 ga 94 #[.int .i64 o.m,.string o.key,.string o.d.tb,.int .i64 (o.d.pos:Int),.slice n3 o.d.nm.length m3,.slice c3 o.d.cl.length k3,.bool o.d.clash,.int .i64 0]:=by
  have h1:=Row.new w3 94 #[.int .i64 o.m,.string o.key,.string o.d.tb,.int .i64 (o.d.pos:Int),.slice n3 o.d.nm.length m3,.slice c3 o.d.cl.length k3,.bool o.d.clash,.int .i64 0]
  rw [hga] at h1
  rw [← hW4]
  have h1:=h1.alloc (.cells #[.pointer (some ⟨ga,0,none⟩)] 92)
  have h1:=h1.alloc (.cells #[.slice ao l.length cap] 36)
  exact h1
 have rB:Row W4 (ga+1) 92 #[.pointer (some ⟨ga,0,none⟩)]:=by
  have h1:=Row.new (w3.alloc (.cells #[.int .i64 o.m,.string o.key,.string o.d.tb,.int .i64 (o.d.pos:Int),.slice n3 o.d.nm.length m3,.slice c3 o.d.cl.length k3,.bool o.d.clash,.int .i64 0] 94)) 92 #[.pointer (some ⟨ga,0,none⟩)]
  simp only [World.size_alloc,hga] at h1
  rw [← hW4]
  have h1:=h1.alloc (.cells #[.slice ao l.length cap] 36)
  exact h1
 have rL:Row W4 (ga+2) 36 #[.slice ao l.length cap]:=by
  have h1:=Row.new ((w3.alloc (.cells #[.int .i64 o.m,.string o.key,.string o.d.tb,.int .i64 (o.d.pos:Int),.slice n3 o.d.nm.length m3,.slice c3 o.d.cl.length k3,.bool o.d.clash,.int .i64 0] 94)).alloc (.cells #[.pointer (some ⟨ga,0,none⟩)] 92)) 36 #[.slice ao l.length cap]
  simp only [World.size_alloc,hga] at h1
  rw [← hW4]
  exact h1
 have hN4:=owns_below HN3.out hk34
 have hC4:=owns_below HC3.out hk34
 have hA4:Pln.AskHeld W4 ga o:=⟨n3,m3,c3,k3,rA,ownsRow_weak hN4 (Nat.zero_le _),ownsRow_weak hC4 (Nat.zero_le _)⟩
 have hR4:=HR.out.below hb04
 have hp4:=Hp.out.below hb04
 have P1:=Lib.hid (P1.out.below hk34 P1.out.lt)
 have P2:=Lib.hid (P2.out.below hk34 P2.out.lt)
 have hfst:(Pln.als o l).map (·.1)=l:=Pln.als_fst o l
 have hseq:=labels1_seq (fun pre=>Pln.asks o (pre.map (·.1))) (Pln.als o l) (.slice ao l.length cap) (ga+2) (ga+1) ga (fun k=>k<ga+3∧k≠ga∧k≠h0+1) W4 ⟨by omega,by omega,by omega⟩ ⟨by omega,by omega,by omega⟩ ⟨by omega,by omega,by omega⟩ (fun h=>h.2.1 rfl) (by omega) hR4 (rL.cell 0) (rB.cell 0) (by rw [hfst];exact hp4)
  (fun ad n c e hn=>by have:=Hpn.out ad n c e hn;exact⟨by omega,by omega,by omega⟩)
  (fun pre x rest hx=>by
   obtain⟨hl,hx2⟩:=Pln.als_at hx
   have hf:=Hfit.out
   rw [hl] at hf
   exact⟨Pln.asks_good hg (Pln.fitsA_take hf).1,(Pln.fitsA_at hf).1,hx2⟩)
 have hI0:Pln.LbsI ga h0 W4 [] W4:=⟨⟨_,P1.out,World.ownsRow_nil _ _ _ 1⟩,Keep.refl _ _⟩
 have Hseq:=Lib.hid hseq
 have HA4:=Lib.hid hA4
 have HI0:=Lib.hid hI0
 have Hb04:=Lib.hid hb04
 have HR4:=Lib.hid hR4
 have Hg0:=Lib.hid hg0
 obtain⟨i0,hi0,hz0,hz1,hz2⟩:=info_parts infoStr
 have HI:=Lib.hid (And.intro hi0 (And.intro hz0 (And.intro hz1 hz2)))
 rw [hW4]
 clear hseq hA4 hI0 hb04 rB rL rA hR4 hp4 hN4 hC4 hk34 hW4 hfst HN3 HC3 Hb03 hga hg0 hi0 hz0 hz1 hz2
 refine(wpIn_wide (n:=9)).1 ?_
 refine wp_rangeI (n:=9) (gf:=77) (lb:=#[.pointer (some ⟨ga+2,0,none⟩),.pointer (some ⟨ga+1,0,none⟩)]) rfl
  (enters_of Tryz.func77 (by kernel_rfl) rfl) Hseq.out (fun k (hk:k=ga)=>by omega) (fun k hk=>by have:=hk.1;omega) (fun pre W i r r' hl h=>h.loop hl) (fun pre x W i r r' hl h=>h.loop hl)
  (fun W hk=>HA4.out.keep hk trivial fun _ _ _ _ _ _=>trivial) (fun _=>rfl) (fun k=>k=h0+1∨ga+5≤k) (fun k hk=>⟨by have:=Hg0.out;omega,fun h=>by have:=h.1;have:=h.2.1;have:=h.2.2;omega⟩)
  (Pln.LbsI ga h0 W4) (fun s A B hs hk=>hs.keep (by have:=Hg0.out;omega) hk (fun k h1 h2 h3=>⟨h1,by omega,by omega⟩)) HI0.out ?body ?done
 case done=>
  rintro W hI hA hz hK
  have hA:Pln.AskHeld W ga (Pln.asks o ((Pln.als o l).map (·.1))):=hA
  obtain⟨lv,rl,hLs⟩:=hI.s
  rw [Pln.als_fst] at hA
  obtain⟨Q,hQ⟩:∃ Q,Pln.asks o l=Q:=⟨_,rfl⟩
  rw [hQ] at hA
  obtain⟨n9,m9,c9,k9,ra,hN9,hC9⟩:=hA
  unfold Pln.askV at ra
  obtain⟨L,hL⟩:∃ L,(Pln.als o l).map (·.2)=L:=⟨_,rfl⟩
  rw [hL] at hLs
  obtain⟨la,lk,rfl⟩:=slice_of hLs
  have hg0:=Hg0.out
  have P2:=P2.out.keep hI.k ⟨by omega,by omega,by omega⟩
  have z0:=ra.cell 0
  change World.cell? _ _=some _ at z0
  have z1:=ra.cell 1
  change World.cell? _ _=some _ at z1
  have z2:=ra.cell 2
  change World.cell? _ _=some _ at z2
  have z3:=ra.cell 3
  change World.cell? _ _=some _ at z3
  have z4:=ra.cell 4
  change World.cell? _ _=some _ at z4
  have z5:=ra.cell 5
  change World.cell? _ _=some _ at z5
  have z6:=ra.cell 6
  change World.cell? _ _=some _ at z6
  have z7:=ra.cell 7
  change World.cell? _ _=some _ at z7
  have y0:=rl.cell 0
  change World.cell? _ _=some _ at y0
  have fy:=rl.frozen 0
  have s0:=P2.cell 0
  change World.cell? _ _=some _ at s0
  have fs0:=P2.frozen 0
  have s1:=P2.cell 1
  change World.cell? _ _=some _ at s1
  have fs1:=P2.frozen 1
  have s2:=P2.cell 2
  change World.cell? _ _=some _ at s2
  have fs2:=P2.frozen 2
  have s3:=P2.cell 3
  change World.cell? _ _=some _ at s3
  have fs3:=P2.frozen 3
  have s4:=P2.cell 4
  change World.cell? _ _=some _ at s4
  have fs4:=P2.frozen 4
  have s5:=P2.cell 5
  change World.cell? _ _=some _ at s5
  have fs5:=P2.frozen 5
  have s6:=P2.cell 6
  change World.cell? _ _=some _ at s6
  have fs6:=P2.frozen 6
  have hgl:=ra.lt
  have hql:=rl.lt
  have HIk:=Lib.hid hI.k
  rw [hz4] at hK hz
  have HK:=Lib.hid hK
  have HLs:=Lib.hid hLs
  have HN9:=Lib.hid hN9
  have HC9:=Lib.hid hC9
  have HP1:=Lib.hid rl
  have HP2:=Lib.hid P2
  have HQ:=Lib.hid hQ
  have HL:=Lib.hid hL
  have hx1:Row (W.setCell ⟨h0+1,0,none⟩ (.slice la L.length lk)) (h0+1) 43 #[.slice la L.length lk]:=rl.store 0 _
  have hx2:Row (W.setCell ⟨h0+1,0,none⟩ (.slice la L.length lk)) (h0+2) 34 #[.int .i64 0,.string ⟨#[]⟩,.string ⟨#[]⟩,.int .i64 0,.slice none 0 0,.slice none 0 0,.bool false]:=P2.other (a:=⟨h0+1,0,none⟩) (show h0+2≠h0+1 by omega) _
  have hx3:Keep (fun k=>k≠h0+1∧k≠h0+2) W (W.setCell ⟨h0+1,0,none⟩ (.slice la L.length lk)):=(Keep.refl _ W).setCell (p:=⟨h0+1,0,none⟩) (fun h=>absurd rfl h.1) _
  have hy1:=row_put7_other hx1 (show h0+1≠h0+2 by omega) (fun i=>(Orc.vals Q.m Q.key Q.d.tb Q.d.pos (.slice n9 Q.d.nm.length m9) (.slice c9 Q.d.cl.length k9) Q.d.clash).getD i undef)
  have hy2:=row_put7 (v:=(fun i=>(Orc.vals Q.m Q.key Q.d.tb Q.d.pos (.slice n9 Q.d.nm.length m9) (.slice c9 Q.d.cl.length k9) Q.d.clash).getD i undef)) hx2 rfl
  have hy3:=hx3.trans ((Pln.keep_put7 _ (h0+2) (fun i=>(Orc.vals Q.m Q.key Q.d.tb Q.d.pos (.slice n9 Q.d.nm.length m9) (.slice c9 Q.d.cl.length k9) Q.d.clash).getD i undef)).mono fun k hk _=>hk.2)
  have Hy1:=Lib.hid hy1
  have Hy2:=Lib.hid hy2
  have Hy3:=Lib.hid hy3
  clear hx1 hx2 hx3 hy1 hy2 hy3
  clear hL hI hK hLs hN9 hC9 P2 ra rl hQ
  go_wp2
  go_cut [6] from 39 to 43 (fun v6 wx=>v6= .int .i64 0∧Row wx (h0+1) 43 #[.slice la L.length lk]∧Row wx (h0+2) 34 (Orc.vals Q.m Q.key Q.d.tb Q.d.pos (.slice n9 Q.d.nm.length m9) (.slice c9 Q.d.cl.length k9) Q.d.clash)∧Keep (fun k=>k≠h0+1∧k≠h0+2) W wx)
  case first=>
   have hmix:Tryz.prog.follows .mixedOrders=true:=by kernel_rfl
   go_region
   all_goals
    go_wp2
    go_meet
    exact⟨rfl,Hy1.out.drew,Hy2.out.drew,Hy3.out.drew⟩
  case rest=>
   obtain⟨w9,rfl⟩:∃ w9,w9=wc:=⟨_,rfl⟩
   obtain⟨rfl,hq1,hq2,hk9⟩:=hcut
   have hK9:w9.heap[ga+3]? =some (.deferred (some [])):=hk9.heap (k:=ga+3) ⟨by omega,by omega⟩ HK.out
   have hno:=fun k hk2=>And.intro (owns_other HN9.out HP1.out (by decide) k hk2) (owns_other HN9.out HP2.out (by decide) k hk2)
   have hco:=fun k hk2=>And.intro (owns_other HC9.out HP1.out (by decide) k hk2) (owns_other HC9.out HP2.out (by decide) k hk2)
   have hn9:=owns_keep HN9.out hk9 hno
   have hc9:=owns_keep HC9.out hk9 hco
   have hkg:Keep (fun k=>k≠ga+3) w9 (w9.putObj (ga+3) (.deferred none)):=(Keep.refl _ _).putObj (fun h=>absurd rfl h) _
   have hg1:=hq1.keep hkg (show h0+1≠ga+3 by have:=Hg0.out;omega)
   have hg2:=hq2.keep hkg (show h0+2≠ga+3 by have:=Hg0.out;omega)
   have hn10:=owns_keep hn9 hkg (owns_obj hn9 hK9 (by intro cs T z e;cases e))
   have hc10:=owns_keep hc9 hkg (owns_obj hc9 hK9 (by intro cs T z e;cases e))
   have hl10:StrAt (w9.putObj (ga+3) (.deferred none)) (ga+5) (.slice la L.length lk) L:=owns_keep (owns_keep HLs.out hk9 (fun k hk2=>by have:=(HLs.out.lt k hk2).1;have:=Hg0.out;omega)) hkg (fun k hk2=>by have:=(HLs.out.lt k hk2).1;omega)
   have hbb:Below w.heap.size w (w9.putObj (ga+3) (.deferred none)):=by
    have hg3:=Hg0.out
    have b1:Keep (fun k=>k<h0) w W4:=Keep.below Hb04.out
    have b2:Keep (fun k=>k<h0) W4 W:=HIk.out.mono fun k hk _=>⟨by omega,by omega,by omega⟩
    have b3:Keep (fun k=>k<h0) W w9:=hk9.mono fun k hk _=>⟨by omega,by omega⟩
    have b4:Keep (fun k=>k<h0) w9 (w9.putObj (ga+3) (.deferred none)):=hkg.mono fun k hk _=>by omega
    exact(((b1.trans b2).trans b3).trans b4).toBelow fun k hk=>by omega
   have HK9:=Lib.hid hK9
   have Hg1:=Lib.hid (hg1.cell 0)
   have Hg2:=Lib.hid hg2
   have Hn10:=Lib.hid hn10
   have Hc10:=Lib.hid hc10
   have Hl10:=Lib.hid hl10
   have Hbb:=Lib.hid hbb
   clear hK9 hno hco hn9 hc9 hg1 hg2 hn10 hc10 hl10 hbb hq1 hq2 hk9
   go_wp2
   rw [hz4]
   refine⟨by simp,.inl ⟨_,_,rfl,run_takeDeferred HK9.out,?_⟩⟩
   refine⟨_,results_sct (g:=h0+1) (g':=h0+2) (t':=34) _ _ rfl rfl Hg1.out (Tryz.isAgg43) rfl Hg2.out Tryz.underlying34 rfl (by kernel_rfl),?_⟩
   unfold Pln.LbsRes
   rw [HQ.out,HL.out]
   exact⟨_,_,_,rfl,ownsRow_weak Hl10.out (by have:=Hg0.out;omega),Hn10.out,Hc10.out,Hbb.out⟩
 case body=>
  intro lp pre x rest W hxs hz hi hmid
  obtain⟨hl,hx2⟩:=Pln.als_at hxs
  have hall:Pln.asks o ((pre++[x]).map (·.1))=(Pln.asks o (pre.map (·.1))).ask x.1.q:=by rw [List.map_append];exact Pln.asks_snoc _ _ _
  have hpl:pre.length+1≤100000:=by have h1:=congrArg List.length hl;rw [List.length_append,List.length_cons,List.length_map] at h1;omega
  obtain⟨QA,hQA⟩:∃ QA,(Pln.asks o (pre.map (·.1))).ask x.1.q=QA:=⟨_,rfl⟩
  rw [hQA] at hall
  simp only [hQA] at hmid ⊢
  have Hall:=Lib.hid hall
  have Hi:=Lib.hid hi
  have Hmid:=Lib.hid hmid
  have Hpl:=Lib.hid hpl
  clear hall hi hmid hxs hpl hl hx2 hQA
  dsimp only [Pln.encP,Pln.Pst.cells]
  gi_wp2
  refine⟨Keep.refl _ _,Hmid.out,fun W3 hk3 hz3 hmid3=> ?_⟩
  rw [hz4] at hk3
  change Keep (fun k=>k≠ga+4) _ W3 at hk3
  have hg0:=Hg0.out
  have hi3:=Hi.out.keep (by omega) hk3 (fun k _ _ h=>h)
  obtain⟨lv,rl,hL3⟩:=hi3.s
  have c0:W3.cell? ⟨h0+1,0,none⟩=some lv:=rl.cell 0
  have f0:=rl.frozen 0
  have hzW:ga+5≤W3.heap.size:=by rw [hz3];omega
  have hne:h0+1≠W3.heap.size:=by omega
  have hlt:h0+1<W3.heap.size:=by omega
  have hLl:(pre.map (·.2)).length=pre.length:=List.length_map _
  obtain⟨L,hLe⟩:∃ L,pre.map (·.2)=L:=⟨_,rfl⟩
  rw [hLe] at hL3 hLl
  have HLe:=Lib.hid hLe
  have HLl:=Lib.hid hLl
  have HL3:=Lib.hid hL3
  have Hrl:=Lib.hid rl
  have Hk4:=Lib.hid hi3.k
  have HzW:=Lib.hid hzW
  have Hm3:=Lib.hid hmid3
  clear hi3 hL3 rl hk3 hz3 hz hzW hLe hLl hmid3 Hi Hmid
  gi_wp2_with (gi_at_builtin;refine wpListIn_append_own _ rfl _ _ 43 rfl (ga+5) 9 i0 _ 1 16 Tryz.underlying43 HI.out.1 HI.out.2.1 HI.out.2.2.1 HI.out.2.2.2 rfl (by decide) _ _ _ rfl (HL3.out.alloc _) ⟨W3.heap.size,0,none⟩ 1 1 [.string x.2] rfl rfl ?a2 (by simp [Value.oneCell']) ?a3 ?a4 ?a5 ?_)
  case a2=>intro j u hu;rw [Addr.add_mid,Nat.zero_add,(Row.new W3 9 #[.string x.2]).cell j];simpa using hu
  case a3=>have:=Hpl.out;rw [HLl.out];unfold maxLen;omega
  case a4=>have:=Hpl.out;rw [HLl.out];omega
  case a5=>rw [World.size_alloc];have:=HzW.out;omega
  intro v' w6 hown6 hgr _
  obtain⟨a6,k6,rfl⟩:=slice_of hown6
  have hg6:=keep_grown hgr
  have hk33:Below W3.heap.size W3 (W3.alloc (.cells #[.string x.2] 9)):=(Below.refl _ _).alloc (Nat.le_refl _) _
  have hr6:=(Hrl.out.alloc (.cells #[.string x.2] 9)).keep hg6 (fun e=>by have:=(HL3.out.lt _ e).1;omega)
  have hA6:=(Hm3.out.below hk33).grown (nb:=ga+5) (by omega) (owns_below HL3.out hk33) hg6
  have hk36:Keep (fun k=>¬ (k=h0+1∨ga+5≤k)) W3 w6:=((Keep.refl _ W3).alloc _).trans (hg6.mono fun k hk _ e=>by have:=(HL3.out.lt _ e).1;omega)
  have c6:w6.cell? ⟨h0+1,0,none⟩=some lv:=hr6.cell 0
  have f6:=hr6.frozen 0
  have hk67:Keep (fun k=>k≠h0+1) w6 (w6.setCell ⟨h0+1,0,none⟩ (.slice a6 (L.length+1) k6)):=(Keep.refl _ _).setCell (p:=⟨h0+1,0,none⟩) (fun h=>absurd rfl h) _
  have hk37:=hk36.trans (hk67.mono fun k hk _ e=>hk (.inl e))
  have hA7:Pln.AskHeld (w6.setCell ⟨h0+1,0,none⟩ (.slice a6 (L.length+1) k6)) ga QA:=hA6.keep hk67 (by omega) fun k T cs z hc hT e=>by
   subst e
   rw [hr6] at hc
   injection hc with hc
   injection hc with _ hc
   rcases hT with hT | hT <;> rw [hT] at hc <;> cases hc
  have hnx:Pln.LbsI ga h0 W4 (pre++[x]) (w6.setCell ⟨h0+1,0,none⟩ (.slice a6 (L.length+1) k6)):=by
   refine⟨⟨_,hr6.store 0 _,?_⟩,Hk4.out.trans (hk37.mono fun k hk _=>by omega)⟩
   rw [List.map_append,HLe.out]
   exact owns_keep (str_snoc hown6 rfl) hk67 (fun k hk2=>by have:=(hown6.lt k hk2).1;omega)
  have Hnx:=Lib.hid hnx
  have Hk37:=Lib.hid hk37
  have HA7:=Lib.hid hA7
  clear hnx hk37 hk67 hk36 hr6 hg6 hgr hown6 hA6 hA7 hk33
  gi_wp2
  refine⟨Hk37.out,Hnx.out,?_⟩
  show Pln.AskHeld _ ga (Pln.asks o ((pre++[x]).map (·.1)))
  rw [Hall.out]
  exact HA7.out
end Go.Proofs.YtpnbkfboneabaaaGreat
