import Derived.Test.YtpnbkfboneabaaaGreatAW
import Derived.Test.YtpnbkfboneabaaaGreatRows
import Derived.HandedShaped
set_option maxRecDepth 100000
set_option maxHeartbeats 4000000
namespace Go.Proofs.YtpnbkfboneabaaaGreat
open Go.RowKit
theorem nm_at {W:World} {B:Nat} {v:Value} {l:List (ByteArray × ByteArray)} (h:NmAt W B v l) {i:Nat} {x:ByteArray × ByteArray} (hx:l[i]? =some x):
 ∃ g cap,v= .slice (some ⟨g,0,none⟩) l.length cap∧W.cell? ⟨g,i*2,none⟩=some (.string x.1)∧W.cell? ⟨g,i*2+1,none⟩=some (.string x.2):=by
 rcases ownsRow_cases h (by decide) with ⟨_,h1,_⟩ | ⟨g,cap,hv,_,hg,hm,hc⟩
 · have:=(List.getElem?_eq_some_iff.1 hx).1
   omega
 · have hx0:∀ k u,k<2→(Idl.nmEnc x)[k]? =some u→W.cell? ⟨g,i*2+k,none⟩=some u:=fun k u hk2 hu=>
    hc _ _ ((flat_get (f:=Idl.nmEnc) (k:=2) (fun _=>rfl) l i k x hx hk2).trans hu)
   exact⟨g,cap,hv,hx0 0 _ (by decide) rfl,hx0 1 _ (by decide) rfl⟩
theorem cl_at {W:World} {B:Nat} {v:Value} {l:List (ByteArray × ByteArray × ByteArray)} (h:ClAt W B v l) {i:Nat} {x:ByteArray × ByteArray × ByteArray} (hx:l[i]? =some x):
 ∃ g cap,v= .slice (some ⟨g,0,none⟩) l.length cap∧W.cell? ⟨g,i*3,none⟩=some (.string x.1)∧W.cell? ⟨g,i*3+1,none⟩=some (.string x.2.1)∧W.cell? ⟨g,i*3+2,none⟩=some (.string x.2.2):=by
 rcases ownsRow_cases h (by decide) with ⟨_,h1,_⟩ | ⟨g,cap,hv,_,hg,hm,hc⟩
 · have:=(List.getElem?_eq_some_iff.1 hx).1
   omega
 · have hx0:∀ k u,k<3→(Idl.clEnc x)[k]? =some u→W.cell? ⟨g,i*3+k,none⟩=some u:=fun k u hk2 hu=>
    hc _ _ ((flat_get (f:=Idl.clEnc) (k:=3) (fun _=>rfl) l i k x hx hk2).trans hu)
   exact⟨g,cap,hv,hx0 0 _ (by decide) rfl,hx0 1 _ (by decide) rfl,hx0 2 _ (by decide) rfl⟩
theorem refIdlSame_any (tb:ByteArray) (p:Nat) (b:Bool) (l:List (ByteArray × ByteArray)) (m:List (ByteArray × ByteArray × ByteArray)) (nv cv nv' cv':Value) (w:World) (hn:NmAt w 0 nv l) (hc:ClAt w 0 cv m) (hn':NmAt w 0 nv' l) (hc':ClAt w 0 cv' m):
 Calls Tryz.prog 48 #[.agg (Idl.vals tb p nv cv b),.agg (Idl.vals tb p nv' cv' b)] w fun e w'=>e= .returned (.bool true)∧Below w.heap.size w w':=by
 obtain⟨na,nk,rfl⟩:=slice_of hn
 obtain⟨ca,ck,rfl⟩:=slice_of hc
 obtain⟨na',nk',rfl⟩:=slice_of hn'
 obtain⟨ca',ck',rfl⟩:=slice_of hc'
 unfold Idl.vals
 obtain⟨p0,q0,hb0,hz0⟩:=box2 w #[.string tb,.int .i64 (p:Int),.slice na l.length nk,.slice ca m.length ck,.bool b] #[.string tb,.int .i64 (p:Int),.slice na' l.length nk',.slice ca' m.length ck',.bool b] 32 32
 have hN:=fun(i:Nat) (x:ByteArray × ByteArray) (hx:l[i]? =some x)=>And.intro (nm_at (owns_below hn hb0) hx) (nm_at (owns_below hn' hb0) hx)
 have hC:=fun(i:Nat) (x:ByteArray × ByteArray × ByteArray) (hx:m[i]? =some x)=>And.intro (cl_at (owns_below hc hb0) hx) (cl_at (owns_below hc' hb0) hx)
 have HN:=Lib.hid hN
 have HC:=Lib.hid hC
 have hl:(l.length:Int)≤9223372036854775807:=by
  rcases ownsRow_cases hn (by decide) with ⟨_,h1,_⟩ | ⟨g,cap,_,_,_,hm,_⟩
  · omega
  · unfold maxLen at hm;omega
 have hm:(m.length:Int)≤9223372036854775807:=by
  rcases ownsRow_cases hc (by decide) with ⟨_,h1,_⟩ | ⟨g,cap,_,_,_,hm,_⟩
  · omega
  · unfold maxLen at hm;omega
 clear hN hC hn hn' hc hc'
 obtain⟨W1,hW1⟩:∃ W1,(w.alloc (.cells #[.string tb,.int .i64 (p:Int),.slice na l.length nk,.slice ca m.length ck,.bool b] 32)).alloc (.cells #[.string tb,.int .i64 (p:Int),.slice na' l.length nk',.slice ca' m.length ck',.bool b] 32)=W1:=⟨_,rfl⟩
 rw [hW1] at p0 q0 hb0 hz0 HN HC
 have c0:W1.cell? ⟨w.heap.size,0,none⟩=some (.string tb):=p0.cell 0
 have c1:W1.cell? ⟨w.heap.size,1,none⟩=some (.int .i64 (p:Int)):=p0.cell 1
 have c2:W1.cell? ⟨w.heap.size,2,none⟩=some (.slice na l.length nk):=p0.cell 2
 have c3:W1.cell? ⟨w.heap.size,3,none⟩=some (.slice ca m.length ck):=p0.cell 3
 have c4:W1.cell? ⟨w.heap.size,4,none⟩=some (.bool b):=p0.cell 4
 have e0:W1.cell? ⟨w.heap.size+1,0,none⟩=some (.string tb):=q0.cell 0
 have e1:W1.cell? ⟨w.heap.size+1,1,none⟩=some (.int .i64 (p:Int)):=q0.cell 1
 have e2:W1.cell? ⟨w.heap.size+1,2,none⟩=some (.slice na' l.length nk'):=q0.cell 2
 have e3:W1.cell? ⟨w.heap.size+1,3,none⟩=some (.slice ca' m.length ck'):=q0.cell 3
 have e4:W1.cell? ⟨w.heap.size+1,4,none⟩=some (.bool b):=q0.cell 4
 have HW1:=Lib.hid hW1
 have Hb0:=Lib.hid hb0
 clear p0 q0 hz0 hb0
 go_enter Tryz.func48,Tryz.ntmps48
 go_upto_region 1 with fail
 clear hW1
 go_wp2
 go_loopw [5] (fun vi wr=>∃ i m:Nat,i≤l.length∧vi= .int .i64 (i:Int)∧wr=W1.drewN m) (fun vi _=>l.length-(intOf vi).toNat)
 case atStart=>exact⟨0,0,Nat.zero_le _,rfl,rfl⟩
 case round=>
  obtain⟨i,k,hi,rfl,rfl⟩:=hrel
  by_cases hlt:i<l.length
  · obtain⟨x,hx⟩:∃ x,l[i]? =some x:=⟨_,List.getElem?_eq_getElem hlt⟩
    obtain⟨⟨g,cap,hv,x0,x1⟩,⟨g',cap',hv',y0,y1⟩⟩:=HN.out i x hx
    injection hv with hva _ hvc
    injection hv' with hva' _ hvc'
    subst hva hvc hva' hvc'
    have hi64:(i:Int)<9223372036854775807:=by omega
    go_wp2
    go_quiet (fail)
    go_wp2
    go_roundw
    case rel=>exact⟨i+1,_,by omega,rfl,rfl⟩
    case measure=>simp [intOf];omega
  · obtain rfl:i=l.length:=by omega
    go_wp2
    go_loopw [4,6] (fun _ vi wr=>∃ i m':Nat,i≤m.length∧vi= .int .i64 (i:Int)∧wr=W1.drewN m') (fun _ vi _=>m.length-(intOf vi).toNat)
    case atStart=>exact⟨0,_,Nat.zero_le _,rfl,rfl⟩
    case round=>
     obtain⟨j,k2,hj,rfl,rfl⟩:=hrel
     by_cases hlt2:j<m.length
     · obtain⟨x,hx⟩:∃ x,m[j]? =some x:=⟨_,List.getElem?_eq_getElem hlt2⟩
       obtain⟨⟨g,cap,hv,x0,x1,x2⟩,⟨g',cap',hv',y0,y1,y2⟩⟩:=HC.out j x hx
       injection hv with hva _ hvc
       injection hv' with hva' _ hvc'
       subst hva hvc hva' hvc'
       have hj64:(j:Int)<9223372036854775807:=by omega
       go_wp2
       go_quiet (fail)
       go_wp2
       go_roundw
       case rel=>exact⟨j+1,_,by omega,rfl,rfl⟩
       case measure=>simp [intOf];omega
     · obtain rfl:j=m.length:=by omega
       go_wp2
       go_ret
       exact⟨rfl,Below.trans_drewN Hb0.out _⟩
namespace Pln
theorem prs_length [Sha.Words] (o:Orc) (l:List Pst):(prs o l).length=l.length:=by
 have:=congrArg List.length (prs_fst o l)
 simpa using this
end Pln
theorem refOrcSame_any (m:Int) (key tb:ByteArray) (p:Nat) (b:Bool) (l:List (ByteArray × ByteArray)) (c:List (ByteArray × ByteArray × ByteArray)) (nv cv nv' cv':Value) (w:World) (hn:NmAt w 0 nv l) (hc:ClAt w 0 cv c) (hn':NmAt w 0 nv' l) (hc':ClAt w 0 cv' c):
 Calls Tryz.prog 23 #[.agg (Orc.vals m key tb p nv cv b),.agg (Orc.vals m key tb p nv' cv' b)] w fun e w'=>e= .returned (.bool true)∧Below w.heap.size w w':=by
 have hS:=fun W (hb:Below w.heap.size w W)=>refIdlSame_any tb p b l c nv cv nv' cv' W (owns_below hn hb) (owns_below hc hb) (owns_below hn' hb) (owns_below hc' hb)
 obtain⟨na,nk,rfl⟩:=slice_of hn
 obtain⟨ca,ck,rfl⟩:=slice_of hc
 obtain⟨na',nk',rfl⟩:=slice_of hn'
 obtain⟨ca',ck',rfl⟩:=slice_of hc'
 unfold Idl.vals Orc.vals at*
 obtain⟨p0,q0,hb0,hz0⟩:=box2 w #[.int .i64 m,.string key,.string tb,.int .i64 (p:Int),.slice na l.length nk,.slice ca c.length ck,.bool b] #[.int .i64 m,.string key,.string tb,.int .i64 (p:Int),.slice na' l.length nk',.slice ca' c.length ck',.bool b] 34 34
 have HS:=Lib.hid (hS _ hb0)
 have Hb0:=Lib.hid hb0
 clear hS p0 q0 hz0 hb0 hn hc hn' hc'
 go_enter Tryz.func23,Tryz.ntmps23
 go_wp2_with fail
 refine HS.out.mono ?_
 rintro e w1 ⟨rfl,hb1⟩
 have Hb1:=Lib.hid (Hb0.out.trans (hb1.mono Hb0.out.size))
 clear hb1 Hb0 HS
 go_wp2
 go_ret
 exact⟨rfl,Hb1.out⟩
theorem infoPost:(Tryz.prog.info? 27).map (fun i=>(i.zero,i.size,i.bytes))=some (some (.agg #[.string ⟨#[]⟩,.int .i64 0,.int .i64 0,.int .i64 0,.int .i64 0]),5,48):=by kernel_rfl
namespace Pln
def postX (l:List Pst):List Value:=l.flatMap Pst.cells
theorem postX_append (l k:List Pst):postX (l++k)=postX l++postX k:=by simp [postX]
theorem postX_at:∀ {l:List Pst} {i:Nat} {p:Pst} {j:Nat} {u:Value},l[i]? =some p→p.cells[j]? =some u→(postX l)[i*5+j]? =some u
 | [],_,_,_,_,h,_=>by simp at h
 | x::l,0,p,j,u,h,hu=>by
   simp only [List.getElem?_cons_zero,Option.some.injEq] at h
   subst h
   have hj:j<x.cells.length:=(List.getElem?_eq_some_iff.1 hu).1
   show(x.cells++postX l)[0*5+j]? =some u
   rw [Nat.zero_mul,Nat.zero_add,List.getElem?_append_left hj]
   exact hu
 | x::l,i+1,p,j,u,h,hu=>by
   simp only [List.getElem?_cons_succ] at h
   show(x.cells++postX l)[(i+1)*5+j]? =some u
   have h5:x.cells.length=5:=rfl
   rw [List.getElem?_append_right (by omega),h5,show(i+1)*5+j-5=i*5+j by omega]
   exact postX_at h hu
def PostRow (W:World) (B:Nat) (v:Value) (l:List Pst):Prop:=W.ownsRow B 27 5 v l.length (postX l)
theorem PostRow.at {W:World} {B:Nat} {v:Value} {l:List Pst} (h:PostRow W B v l):PostsAt W v l:=by
 rcases ownsRow_cases h (by decide) with ⟨rfl,h1,_⟩ | ⟨g,cap,rfl,_,_,hm,hc⟩
 · have:=List.eq_nil_of_length_eq_zero h1
   subst this
   exact⟨none,0,rfl,Nat.zero_le _,fun i p hp=>by simp at hp⟩
 · exact⟨_,cap,rfl,by omega,fun i p hp=>⟨g,0,rfl,fun j u hu=>by rw [Nat.zero_add];exact hc _ u (postX_at hp hu)⟩⟩
end Pln
attribute [local go_sem] Oper.semAt_some
theorem put_long (o:Orc) (hg:o.Good) (nv cv:Value) (l:List Pln.Pst) (v:Value) (hlen:200<l.length) (w:World) (hN:NmAt w 0 nv o.d.nm) (hC:ClAt w 0 cv o.d.cl) (hp:Pln.PostsAt w v l):
 Calls Tryz.prog 20 #[o.agg nv cv,v] w fun e w'=>∃ nv' cv',e= .returned (.tuple #[.agg #[.int .i64 0,.slice none 0 0,.slice none 0 0],o.agg nv' cv',.int .i64 2])∧NmAt w' 0 nv' o.d.nm∧ClAt w' 0 cv' o.d.cl∧Below w.heap.size w w':=by
 obtain⟨h0,hh0⟩:∃ h0,w.heap.size=h0:=⟨_,rfl⟩
 obtain⟨na,nk,rfl⟩:=slice_of hN
 obtain⟨ca,ck,rfl⟩:=slice_of hC
 have hp2:=hp
 obtain⟨ao,cap,rfl,hlm,hpc⟩:=hp
 have hpn:∀ ad n c,Value.slice ao l.length cap= .slice (some ad) n c→0<n→ad.block<h0:=by
  intro ad n c e hn
  injection e with e1 e2 _
  obtain⟨b,po,h1,h2⟩:=hpc 0 l[0] (List.getElem?_eq_getElem (by omega))
  rw [h1] at e1
  injection e1 with e1
  have h3:b<w.heap.size:=lt_of_cell (h2 0 _ rfl)
  rw [← e1]
  show b<h0
  omega
 have hRi:=fun W (hb:Below w.heap.size w W)=>oracleRight_all o hg (.slice na o.d.nm.length nk) (.slice ca o.d.cl.length ck) W (owns_below hN hb) (owns_below hC hb)
 have hOw:=fun W (hb:Below w.heap.size w W)=>ownPln_any o.m o.key o.d.tb o.d.pos (.slice na o.d.nm.length nk) (.slice ca o.d.cl.length ck) o.d.clash o.d (by have:=hg.d.nms;omega) (by have:=hg.d.cls;omega) W (owns_below hN hb) (owns_below hC hb)
 unfold Orc.agg Orc.vals at hRi
 unfold Orc.vals at hOw
 have HRi:=Lib.hid hRi
 have HOw:=Lib.hid hOw
 have Hp:=Lib.hid hp2
 have Hpn:=Lib.hid hpn
 have Hlm:=Lib.hid hlm
 have hlen':200<(l.length:Int):=by omega
 have h64:(l.length:Int)≤9223372036854775807:=by have:=hlm;unfold maxLen at this;omega
 clear hRi hOw hp2 hpn hlm hpc hN hC
 unfold Orc.agg Orc.vals
 refine(callsIn_wide (n:=9)).1 ?_
 refine callsIn_of_wp_marks Tryz.func20 rfl trivial ?_ rfl
 simp only [Tryz.ntmps20,List.size_toArray,List.length_cons,List.length_nil,Nat.reduceAdd,Nat.reduceSub,Array.replicate_succ,Array.replicate_zero,List.push_toArray,List.append_toArray,List.nil_append,List.cons_append]
 refine wpIn_wide.2 ?_
 have hb1:Below w.heap.size w (((w.alloc (.cells #[.int .i64 o.m,.string o.key,.string o.d.tb,.int .i64 (o.d.pos:Int),.slice na o.d.nm.length nk,.slice ca o.d.cl.length ck,.bool o.d.clash] 34)).alloc (.cells #[.int .i64 0,.slice none 0 0,.slice none 0 0] 49)).alloc (.cells orcZ 34)):=
  (((Below.refl _ w).alloc (Nat.le_refl _) _).alloc (by simp) _).alloc (by simp;omega) _
 unfold orcZ at hb1
 have Hb1:=Lib.hid hb1
 clear hb1
 go_wp2_with fail
 refine(HRi.out _ Hb1.out).mono ?_
 rintro e w2 ⟨rfl,hb2⟩
 have hb02:=Hb1.out.trans (hb2.mono Hb1.out.size)
 have p0:Row w2 h0 34 #[.int .i64 o.m,.string o.key,.string o.d.tb,.int .i64 (o.d.pos:Int),.slice na o.d.nm.length nk,.slice ca o.d.cl.length ck,.bool o.d.clash]:=by
  have h1:=((Row.new w 34 #[.int .i64 o.m,.string o.key,.string o.d.tb,.int .i64 (o.d.pos:Int),.slice na o.d.nm.length nk,.slice ca o.d.cl.length ck,.bool o.d.clash]).alloc (.cells #[.int .i64 0,.slice none 0 0,.slice none 0 0] 49)).alloc (.cells #[.int .i64 0,.string ⟨#[]⟩,.string ⟨#[]⟩,.int .i64 0,.slice none 0 0,.slice none 0 0,.bool false] 34)
  rw [hh0] at h1
  exact h1.below hb2 h1.lt
 have p1:Row w2 (h0+1) 49 #[.int .i64 0,.slice none 0 0,.slice none 0 0]:=by
  have h1:=(Row.new (w.alloc (.cells #[.int .i64 o.m,.string o.key,.string o.d.tb,.int .i64 (o.d.pos:Int),.slice na o.d.nm.length nk,.slice ca o.d.cl.length ck,.bool o.d.clash] 34)) 49 #[.int .i64 0,.slice none 0 0,.slice none 0 0]).alloc (.cells #[.int .i64 0,.string ⟨#[]⟩,.string ⟨#[]⟩,.int .i64 0,.slice none 0 0,.slice none 0 0,.bool false] 34)
  rw [World.size_alloc,hh0] at h1
  exact h1.below hb2 h1.lt
 have p2:Row w2 (h0+2) 34 #[.int .i64 0,.string ⟨#[]⟩,.string ⟨#[]⟩,.int .i64 0,.slice none 0 0,.slice none 0 0,.bool false]:=by
  have h1:=Row.new ((w.alloc (.cells #[.int .i64 o.m,.string o.key,.string o.d.tb,.int .i64 (o.d.pos:Int),.slice na o.d.nm.length nk,.slice ca o.d.cl.length ck,.bool o.d.clash] 34)).alloc (.cells #[.int .i64 0,.slice none 0 0,.slice none 0 0] 49)) 34 #[.int .i64 0,.string ⟨#[]⟩,.string ⟨#[]⟩,.int .i64 0,.slice none 0 0,.slice none 0 0,.bool false]
  rw [World.size_alloc,World.size_alloc,hh0] at h1
  exact h1.below hb2 h1.lt
 have u0:=p0.cell 0
 change World.cell? _ _=some _ at u0
 have u1:=p0.cell 1
 change World.cell? _ _=some _ at u1
 have u2:=p0.cell 2
 change World.cell? _ _=some _ at u2
 have u3:=p0.cell 3
 change World.cell? _ _=some _ at u3
 have u4:=p0.cell 4
 change World.cell? _ _=some _ at u4
 have u5:=p0.cell 5
 change World.cell? _ _=some _ at u5
 have u6:=p0.cell 6
 change World.cell? _ _=some _ at u6
 have P1:=Lib.hid p1
 have P2:=Lib.hid p2
 have Hb02:=Lib.hid hb02
 clear p0 p1 p2 hb02 hb2 Hb1 HRi
 go_wp2_with fail
 refine(HOw.out _ Hb02.out).mono ?_
 rintro e w3 ⟨nv3,cv3,rfl,hN3,hC3,hb3⟩
 obtain⟨n3,m3,rfl⟩:=slice_of hN3
 obtain⟨c3,k3,rfl⟩:=slice_of hC3
 have hb03:=Hb02.out.trans (hb3.mono Hb02.out.size)
 have hw2:=P2.out.lt
 have P1:=P1.out.below hb3 P1.out.lt
 have P2:=P2.out.below hb3 P2.out.lt
 have r0:=P1.cell 0
 change World.cell? _ _=some _ at r0
 have fr0:=P1.frozen 0
 have r1:=P1.cell 1
 change World.cell? _ _=some _ at r1
 have fr1:=P1.frozen 1
 have r2:=P1.cell 2
 change World.cell? _ _=some _ at r2
 have fr2:=P1.frozen 2
 have s0:=P2.cell 0
 change World.cell? _ _=some _ at s0
 have fs0:=P2.frozen 0
 have s1:=P2.cell 1
 change World.cell? _ _=some _ at s1
 have fs1:=P2.frozen 1
 have s2:=P2.cell 2
 change World.cell? _ _=some _ at s2
 have fs2:=P2.frozen 2
 have s3:=P2.cell 3
 change World.cell? _ _=some _ at s3
 have fs3:=P2.frozen 3
 have s4:=P2.cell 4
 change World.cell? _ _=some _ at s4
 have fs4:=P2.frozen 4
 have s5:=P2.cell 5
 change World.cell? _ _=some _ at s5
 have fs5:=P2.frozen 5
 have s6:=P2.cell 6
 change World.cell? _ _=some _ at s6
 have fs6:=P2.frozen 6
 have hx1:Row (((w3.setCell ⟨h0+1,0,none⟩ (.int .i64 0)).setCell ⟨h0+1,1,none⟩ (.slice none 0 0)).setCell ⟨h0+1,2,none⟩ (.slice none 0 0)) (h0+1) 49 #[.int .i64 0,.slice none 0 0,.slice none 0 0]:=((P1.store 0 _).store 1 _).store 2 _
 have hx2:Row (((w3.setCell ⟨h0+1,0,none⟩ (.int .i64 0)).setCell ⟨h0+1,1,none⟩ (.slice none 0 0)).setCell ⟨h0+1,2,none⟩ (.slice none 0 0)) (h0+2) 34 #[.int .i64 0,.string ⟨#[]⟩,.string ⟨#[]⟩,.int .i64 0,.slice none 0 0,.slice none 0 0,.bool false]:=((P2.other (a:=⟨h0+1,0,none⟩) (show h0+2≠h0+1 by omega) _).other (a:=⟨h0+1,1,none⟩) (show h0+2≠h0+1 by omega) _).other (a:=⟨h0+1,2,none⟩) (show h0+2≠h0+1 by omega) _
 have hx3:Keep (fun k=>k≠h0+1∧k≠h0+2) w3 (((w3.setCell ⟨h0+1,0,none⟩ (.int .i64 0)).setCell ⟨h0+1,1,none⟩ (.slice none 0 0)).setCell ⟨h0+1,2,none⟩ (.slice none 0 0)):=(((Keep.refl _ w3).setCell (p:=⟨h0+1,0,none⟩) (fun h=>absurd rfl h.1) _).setCell (p:=⟨h0+1,1,none⟩) (fun h=>absurd rfl h.1) _).setCell (p:=⟨h0+1,2,none⟩) (fun h=>absurd rfl h.1) _
 have hy1:=row_put7_other hx1 (show h0+1≠h0+2 by omega) (fun i=>(Orc.vals o.m o.key o.d.tb o.d.pos (.slice n3 o.d.nm.length m3) (.slice c3 o.d.cl.length k3) o.d.clash).getD i undef)
 have hy2:=row_put7 (v:=fun i=>(Orc.vals o.m o.key o.d.tb o.d.pos (.slice n3 o.d.nm.length m3) (.slice c3 o.d.cl.length k3) o.d.clash).getD i undef) hx2 rfl
 have hy3:=hx3.trans ((Pln.keep_put7 _ (h0+2) (fun i=>(Orc.vals o.m o.key o.d.tb o.d.pos (.slice n3 o.d.nm.length m3) (.slice c3 o.d.cl.length k3) o.d.clash).getD i undef)).mono fun k hk _=>hk.2)
 have hl1:=P1.lt
 have hl2:=P2.lt
 have hn9:=owns_keep hN3 hy3 fun k hk2=>⟨by have:=(hN3.lt k hk2).1;omega,by have:=(hN3.lt k hk2).1;omega⟩
 have hc9:=owns_keep hC3 hy3 fun k hk2=>⟨by have:=(hC3.lt k hk2).1;omega,by have:=(hC3.lt k hk2).1;omega⟩
 have hbb:Below w.heap.size w _:=((Keep.below (S:=fun k=>k<h0) (hh0 ▸ hb03)).trans (hy3.mono fun k hk _=>⟨by omega,by omega⟩)).toBelow fun k hk=>by omega
 have Hy1:=Lib.hid hy1
 have Hy2:=Lib.hid hy2
 have Hn9:=Lib.hid hn9
 have Hc9:=Lib.hid hc9
 have Hbb:=Lib.hid hbb
 clear hx1 hx2 hx3 hy1 hy2 hy3 hN3 hC3 hb3 hb03 P1 P2 hn9 hc9 hbb Hb02 HOw Hp Hpn Hlm
 go_wp2
 refine⟨_,results_cct (g:=h0+1) (g':=h0+2) (t:=49) (t':=34) _ _ rfl rfl Hy1.out Tryz.underlying49 rfl (by kernel_rfl) rfl Hy2.out Tryz.underlying34 rfl (by kernel_rfl),?_⟩
 exact⟨_,_,rfl,ownsRow_weak Hn9.out (Nat.zero_le _),ownsRow_weak Hc9.out (Nat.zero_le _),Hbb.out⟩
end Go.Proofs.YtpnbkfboneabaaaGreat
namespace Go.Proofs.YtpnbkfboneabaaaGreat
open Go.RowKit
namespace Pln
theorem put_known [Sha.Words] {o:Orc} (hg:o.Good) (l t c:ByteArray) (ht:t.size=24) (hl:o.d.cl.length≠2000) (hp:o.m=2→o.d.pos+40≤o.d.tb.size) (h:(l,t,c)∈o.d.cl):o.put l t=o∧(o.wayC l t).1=c:=by
 rcases Orc.wayC_cases hg l t ht hl hp with ⟨c',hc,hw⟩ | ⟨hn,_⟩
 · refine⟨?_,?_⟩
   · unfold Orc.put
     rw [hw]
   · rw [hw]
     have h1:o.d.cell l t=(c,o.d,0):=Idl.cell_found hg.d h
     rw [Idl.cell_found hg.d hc] at h1
     injection h1
 · exact absurd (List.mem_map_of_mem (f:=fun x:ByteArray × ByteArray × ByteArray=>(x.1,x.2.1)) h) hn
theorem one_known [Sha.Words] {o:Orc} (hg:o.Good) {p:Pst} (hp:p.Good) (hr:Room o 1) {s c:ByteArray} (h1:(p.q,s)∈o.d.nm) (h2:(s,p.tx,c)∈o.d.cl):one o p=o∧lb o p=s∧ce o p=c∧Fit2 o p:=by
 have hn:=hr.nm
 have hc:=hr.cl
 have hl:o.d.nm.length≠2000:=by omega
 have hlc:o.d.cl.length≠2000:=by omega
 have ha:=ask_known hg p.q s hl (fun e=>by have:=hr.tp e;omega) h1
 have hlb:lb o p=s:=ha.2
 have hb:=put_known hg s p.tx c p.tx_size hlc (fun e=>by have:=hr.tp e;omega) h2
 refine⟨?_,hlb,?_,⟨⟨hp,hl,fun e=>by have:=hr.tp e;omega⟩,hlc,fun e=> ?_⟩⟩
 · unfold one
   rw [ha.1,hlb]
   exact hb.1
 · unfold ce
   rw [ha.1,hlb]
   exact hb.2
 · rw [ha.1]
   have:=hr.tp e
   omega
theorem all_same [Sha.Words] {o:Orc} {p:Pst} (hg:o.Good) (hp:p.Good) (hr:Room o 2) (n:Nat):all o (List.replicate (n+1) p)=one o p∧Fits o (List.replicate (n+1) p):=by
 have h1:=room_one (n:=1) hg hp hr
 have hg1:=(one_good hg h1.1).2.1
 have jk:=one_in hg h1.1
 have hk:=one_known hg1 hp h1.2 jk.1 jk.2.1
 have hrest:∀ k,all (one o p) (List.replicate k p)=one o p∧Fits (one o p) (List.replicate k p):=by
  intro k
  induction k with
  | zero=>exact⟨rfl,trivial⟩
  | succ k ih=>
    rw [List.replicate_succ]
    refine⟨?_,hk.2.2.2,?_⟩
    · show all (one (one o p) p) (List.replicate k p)=one o p
      rw [hk.1]
      exact ih.1
    · rw [hk.1]
      exact ih.2
 rw [List.replicate_succ]
 exact⟨(hrest n).1,h1.1,(hrest n).2⟩
theorem one_pos [Sha.Words] {o:Orc} {p:Pst} (hg:o.Good) (h:Fit2 o p) (hm:o.m=2) (h1:o.d.nm=[]) (h2:o.d.cl=[]):(one o p).d.pos=o.d.pos+56:=by
 have s1:=Orc.ask_step hg p.q h.1.1.q h.1.2.1 h.1.2.2
 have s2:=Orc.put_step s1.1 (lb o p) p.tx s1.2.1 p.tx_size (by rw [s1.2.2.2.2.1];exact h.2.1) (by rw [s1.2.2.2.1];exact h.2.2)
 have hc16:o.cost 16=16:=by unfold Orc.cost;rw [if_neg (by omega)]
 have hm2:(o.ask p.q).m=2:=hm
 have hc40:(o.ask p.q).cost 40=40:=by unfold Orc.cost;rw [if_neg (by omega)]
 have e1:(o.ask p.q).d.pos=o.d.pos+16:=by
  rcases s1.2.2.2.2.2 with ⟨he,_⟩ | ⟨_,he⟩
  · have:=s1.2.2.1
    rw [he,h1] at this
    cases this
  · rw [he,hc16]
 unfold one
 rcases s2.2.2.2.2.2 with ⟨he,_⟩ | ⟨_,he,_⟩
 · have:=s2.2.2.1
   rw [he,s1.2.2.2.2.1,h2] at this
   cases this
 · rw [he,hc40,e1]
end Pln
end Go.Proofs.YtpnbkfboneabaaaGreat
namespace Go.Proofs.YtpnbkfboneabaaaGreat.planBatch
open Go.ChangeShapes Go.WideShapes Go.ChangeAt Go.RowKit Go.WideMaps
def pt:Pln.Pst:=⟨⟨#[115,97,109,101]⟩,0,0,1,5⟩
theorem pt_good:pt.Good:=⟨by decide,by decide,by decide,by decide,by decide⟩
theorem postX_rep (i:Nat):Pln.postX (List.replicate (i+1) pt)=Pln.postX (List.replicate i pt)++[.string ⟨#[115,97,109,101]⟩,.int .i64 0,.int .i64 0,.int .i64 1,.int .i64 5]:=by
 rw [List.replicate_succ',Pln.postX_append]
 rfl
theorem walk [Sha.Words] (a:Int) (ha: -9223372036854775808≤a∧a≤9223372036854775807) (b:Int) (hb: -9223372036854775808≤b∧b≤9223372036854775807) (w:World) (hR:Sha.RoundIn w):
 Calls Tryz.prog 11 #[.int .i64 a,.int .i64 b] w fun e w'=>e= .returned (.bool true)∧Below w.heap.size w w':=by
 have hP1:=fun W=>pick19_any a 5 ha (by decide) W
 have hP2:=fun W=>pick19_any b 256 hb (by decide) W
 obtain⟨x,ex,lx⟩:=pick_nat a 5 (by decide)
 obtain⟨k,ek,lk⟩:=pick_nat b 256 (by decide)
 change pickOf a 5=(x:Int) at ex
 change pickOf b 256=(k:Int) at ek
 rw [ex] at hP1
 rw [ek] at hP2
 have hk256:(k:Int)%256=(k:Int):=by omega
 have hkw:IntKind.u8.wrap (k:Int)=(k:Int):=by rw [IntKind.wrap_u8];omega
 have hAw:=awake19_any w hR
 obtain⟨i0,hi0,hz0,hz1,hz2⟩:=info_parts infoPost
 have HhP1:=Lib.hid hP1
 have HhP2:=Lib.hid hP2
 have HhAw:=Lib.hid hAw
 have HhR:=Lib.hid hR
 have HI:=Lib.hid (And.intro hi0 (And.intro hz0 (And.intro hz1 hz2)))
 have Hba:=Lib.hid hb
 clear hP1 hP2 hAw hR hi0 hz0 hz1 hz2 ex ek ha hb
 go_enter Tryz.func11,Tryz.ntmps11
 go_wp2_with fail
 refine HhAw.out.mono ?_
 rintro e w1 ⟨rfl,hb1⟩
 have Hb1:=Lib.hid hb1
 clear hb1 HhAw
 go_wp2_with fail
 refine(HhP1.out _).mono ?_
 rintro e w2 ⟨rfl,rfl⟩
 go_wp2_with fail
 refine(HhP2.out _).mono ?_
 rintro e w3 ⟨rfl,rfl⟩
 go_wp2_with fail
 have hI:IntsIn (.slice (some ⟨w3.heap.size,0,none⟩) 1 1) (w3.alloc (.cells #[.int .i64 b] 3)):=by
  refine .inr ⟨_,1,1,fun _=>b,rfl,Nat.le_refl _,by decide,fun i hi=>⟨?_,Hba.out⟩⟩
  obtain rfl:i=0:=by omega
  exact(Row.new w3 3 #[.int .i64 b]).cell 0
 refine(Draws_any _ false _ hI).mono ?_
 rintro e w4 ⟨s,hs,rfl,hb4⟩
 have hb34:Below w3.heap.size w3 w4:=((Below.refl _ w3).alloc (Nat.le_refl _) _).trans (hb4.mono (by simp))
 have Hb4:=Lib.hid (below_seq Hb1.out hb34)
 have Hs:=Lib.hid hs
 clear hb4 hb34 Hb1 hI hs
 go_wp2_with fail
 refine(Fresh_any 2 k s 0 (by have:=Hs.out;omega) (Nat.zero_le _) w4).mono ?_
 rintro e w5 ⟨rfl,hb5⟩
 have Hb5:=Lib.hid (below_seq Hb4.out hb5)
 clear hb5 Hb4
 obtain⟨key,hkey⟩:∃ key,strOf (List.replicate 32 k)=key:=⟨_,rfl⟩
 have hkz:key.size=32:=by rw [← hkey,strOf_size,List.length_replicate]
 rw [hkey]
 have hgo:=Awk.o_good (key:=key) hkz Hs.out
 have hro:=Awk.o_room (key:=key) Hs.out
 obtain⟨n,hn⟩:∃ n:Nat,198+x=n:=⟨_,rfl⟩
 have hn':(198:Int)+(x:Int)=(n:Int):=by omega
 have hn1:1≤n:=by omega
 have hn2:n≤202:=by omega
 have hput:n≤200→∀ W v,Sha.RoundIn W→Pln.PostsAt W v (List.replicate n pt)→Calls Tryz.prog 20 #[.agg #[.int .i64 2,.string key,.string s,.int .i64 0,.slice none 0 0,.slice none 0 0,.bool false],v] W fun e w'=>∃(lv cv nv' cv':Value) (lo co:Option Addr) (lc cc:Nat) (Q:Orc),lv= .slice lo n lc∧cv= .slice co n cc∧Q.d.pos=56∧NmAt w' 0 nv' Q.d.nm∧ClAt w' 0 cv' Q.d.cl∧e= .returned (.tuple #[.agg #[.int .i64 1,lv,cv],Q.agg nv' cv',.int .i64 0])∧Below W.heap.size W w':=fun hle W v h1 h2=>by
  obtain⟨n',rfl⟩:∃ n',n=n'+1:=⟨n-1,by omega⟩
  have hsame:=Pln.all_same hgo pt_good hro n'
  have h:=put_any (Awk.o key s) hgo (.slice none 0 0) (.slice none 0 0) (List.replicate (n'+1) pt) v (by rw [List.length_replicate];exact hle) hsame.2 W h1 (World.ownsRow_nil _ _ _ 2) (World.ownsRow_nil _ _ _ 3) h2
  unfold Pln.PutRes at h
  refine h.mono ?_
  rintro e w' ⟨lv,cv,nv',cv',he,hl,hc,hN,hC,hb⟩
  rw [hsame.1] at he hN hC
  have h1:((Pln.prs (Awk.o key s) (List.replicate (n'+1) pt)).map (·.2)).length=n'+1:=by rw [List.length_map,Pln.prs_length,List.length_replicate]
  have h2:(Pln.ces (Awk.o key s) (List.replicate (n'+1) pt)).length=n'+1:=by rw [Pln.ces_length,List.length_replicate]
  unfold StrAt at hl hc
  rw [h1] at hl
  rw [h2] at hc
  obtain⟨lo,lc,hl'⟩:=slice_of hl
  obtain⟨co,cc,hc'⟩:=slice_of hc
  have hp:=Pln.one_pos hgo (Pln.room_one (n:=1) hgo pt_good hro).1 rfl rfl rfl
  exact⟨lv,cv,nv',cv',lo,co,lc,cc,_,hl',hc',hp,hN,hC,he,hb⟩
 have hlong:200<n→∀ W v,Pln.PostsAt W v (List.replicate n pt)→Calls Tryz.prog 20 #[.agg #[.int .i64 2,.string key,.string s,.int .i64 0,.slice none 0 0,.slice none 0 0,.bool false],v] W fun e w'=>∃ nv' cv',NmAt w' 0 nv' []∧ClAt w' 0 cv' []∧e= .returned (.tuple #[.agg #[.int .i64 0,.slice none 0 0,.slice none 0 0],.agg #[.int .i64 2,.string key,.string s,.int .i64 0,nv',cv',.bool false],.int .i64 2])∧Below W.heap.size W w':=fun hle W v h2=>by
  refine(put_long (Awk.o key s) hgo (.slice none 0 0) (.slice none 0 0) (List.replicate n pt) v (by rw [List.length_replicate];exact hle) W (World.ownsRow_nil _ _ _ 2) (World.ownsRow_nil _ _ _ 3) h2).mono ?_
  rintro e w' ⟨nv',cv',he,hN,hC,hb⟩
  exact⟨nv',cv',hN,hC,he,hb⟩
 have Hput:=Lib.hid hput
 have Hlong:=Lib.hid hlong
 clear hput hlong hgo hro hkz hkey Hs
 unfold Orc.vals
 have p7:=Row.new w5 34 #[.int .i64 2,.string key,.string s,.int .i64 0,.slice none 0 0,.slice none 0 0,.bool false]
 have hb56:Below w5.heap.size w5 (w5.alloc (.cells #[.int .i64 2,.string key,.string s,.int .i64 0,.slice none 0 0,.slice none 0 0,.bool false] 34)):=(Below.refl _ w5).alloc (Nat.le_refl _) _
 obtain⟨g7,hg7⟩:∃ g7,w5.heap.size=g7:=⟨_,rfl⟩
 rw [hg7] at p7
 have Hb6:=Lib.hid (below_seq Hb5.out hb56)
 have P7:=Lib.hid p7
 clear hb56 p7 Hb5
 go_wp2
 obtain⟨w6,hw6⟩:∃ w6,w5.alloc (.cells #[.int .i64 2,.string key,.string s,.int .i64 0,.slice none 0 0,.slice none 0 0,.bool false] 34)=w6:=⟨_,rfl⟩
 rw [hw6] at Hb6 P7 ⊢
 have hz6:w6.heap.size=g7+1:=by rw [← hw6,World.size_alloc,hg7]
 clear hw6 hg7
 have Hst:Hid (∃ i:Nat,i≤n∧Value.int .i64 0= .int .i64 (i:Int)∧w6.ownsRow (g7+1) 27 5 (.slice none 0 0) i (Pln.postX (List.replicate i pt))∧Below w6.heap.size w6 w6):=Lib.hid ⟨0,Nat.zero_le _,rfl,by simpa [Pln.postX] using World.ownsRow_nil _ _ _ 5,Below.refl _ _⟩
 go_loopw [8,9] (fun vo vi wr=>∃ i:Nat,i≤n∧vi= .int .i64 (i:Int)∧wr.ownsRow (g7+1) 27 5 vo i (Pln.postX (List.replicate i pt))∧Below w6.heap.size w6 wr) (fun _ vi _=>n-(intOf vi).toNat)
 case atStart=>exact Hst.out
 case round=>
  clear Hst
  obtain⟨i,hi,rfl,hown,hbr⟩:=hrel
  by_cases hlt:i<n
  · have hlt':(i:Int)<(n:Int):=by omega
    obtain⟨hi0,hz0,hz1,hz2⟩:=HI.out
    have hzr:g7+1≤wr.heap.size:=by have:=hbr.size;omega
    have Hown:=Lib.hid hown
    have Hbr:=Lib.hid hbr
    clear hown hbr
    go_wp2_with (at_builtin;go_must (refine wpList_append_own _ rfl _ _ 36 rfl (g7+1) 27 i0 _ 5 48 Tryz.underlying36 hi0 hz0 hz1 hz2 rfl (by decide) _ _ _ rfl (Hown.out.alloc _) ⟨wr.heap.size,0,none⟩ 1 1 [.string ⟨#[115,97,109,101]⟩,.int .i64 0,.int .i64 0,.int .i64 1,.int .i64 5] rfl rfl ?a2 (by simp [Value.oneCell']) ?a3 ?a4 ?a5 ?_))
    case a2=>intro j u hu;rw [Addr.add_mid,Nat.zero_add,(Row.new wr 27 #[.string ⟨#[115,97,109,101]⟩,.int .i64 0,.int .i64 0,.int .i64 1,.int .i64 5]).cell j];simpa using hu
    case a3=>unfold maxLen;omega
    case a4=>omega
    case a5=>rw [World.size_alloc];omega
    intro v' w7 hown' hgr _
    have hbx:Below w6.heap.size w6 w7:=keep_below (B:=w6.heap.size) (((Keep.refl (fun k=>k<w6.heap.size) wr).alloc _).trans ((keep_grown hgr).mono fun k hk _ e=>by have:=(Hown.out.lt k e).1;omega)) (fun k hk=>hk) (by have:=Hbr.out.size;omega) |> fun h=>Hbr.out.trans h
    have Hnx:=Lib.hid (And.intro hown' hbx)
    clear hown' hgr hbx
    go_wp2
    go_roundw
    case rel=>exact⟨i+1,by omega,by simp,by rw [postX_rep];exact Hnx.out.1,Hnx.out.2⟩
    case measure=>simp [intOf];omega
  · obtain rfl:i=n:=by omega
    have hlt':¬ (i:Int)<(i:Int):=by omega
    obtain⟨va,vk,rfl⟩:=slice_of hown
    have hpr:Pln.PostRow wr (g7+1) (.slice va i vk) (List.replicate i pt):=by unfold Pln.PostRow;rw [List.length_replicate];exact hown
    have hpa:=hpr.at
    have p7:=P7.out.below hbr P7.out.lt
    have z0:=p7.cell 0
    change World.cell? _ _=some _ at z0
    have z1:=p7.cell 1
    change World.cell? _ _=some _ at z1
    have z2:=p7.cell 2
    change World.cell? _ _=some _ at z2
    have z3:=p7.cell 3
    change World.cell? _ _=some _ at z3
    have z4:=p7.cell 4
    change World.cell? _ _=some _ at z4
    have z5:=p7.cell 5
    change World.cell? _ _=some _ at z5
    have z6:=p7.cell 6
    change World.cell? _ _=some _ at z6
    have Hb8:=Lib.hid (below_seq Hb6.out hbr)
    have Hpa:=Lib.hid hpa
    have P7:=Lib.hid p7
    have hg7r:g7<wr.heap.size:=p7.lt
    clear hown hbr hpr hpa p7 hlt hi
    by_cases h200:i≤200
    · have h2:¬ 200<(i:Int):=by omega
      have HP:=Lib.hid (Hput.out h200 wr _ (HhR.out.below Hb8.out) Hpa.out)
      clear Hput Hlong Hpa
      go_wp2_with fail
      refine HP.out.mono ?_
      rintro e w9 ⟨lv,cv,nv,cv2,lo,co,lc,cc,Q,rfl,rfl,hpos,hN,hC,rfl,hb9⟩
      obtain⟨na,nk,rfl⟩:=slice_of hN
      obtain⟨oa,ok,rfl⟩:=slice_of hC
      unfold Orc.agg Orc.vals
      rw [hpos]
      have Hb9:=Lib.hid (below_seq Hb8.out hb9)
      clear hb9 Hb8 HP P7 hN hC z0 z1 z2 z3 z4 z5 z6
      have hbe:Below w.heap.size w ((w9.alloc (.cells #[.int .i64 1,.slice lo i lc,.slice co i cc] 49)).alloc (.cells #[.int .i64 Q.m,.string Q.key,.string Q.d.tb,.int .i64 ((56:Nat):Int),.slice na Q.d.nm.length nk,.slice oa Q.d.cl.length ok,.bool Q.d.clash] 34)):=(Hb9.out.alloc Hb9.out.size _).alloc (by have:=Hb9.out.size;simp;omega) _
      have Hbe:=Lib.hid hbe
      clear hbe
      go_wp2
      go_ret
      exact⟨rfl,Hbe.out⟩
    · have h2:200<(i:Int):=by omega
      have HP:=Lib.hid (Hlong.out (by omega) wr _ Hpa.out)
      clear Hput Hlong Hpa
      go_wp2_with fail
      refine HP.out.mono ?_
      rintro e w9 ⟨nv,cv2,hN,hC,rfl,hb9⟩
      obtain⟨na,nk,rfl⟩:=slice_of hN
      obtain⟨oa,ok,rfl⟩:=slice_of hC
      have p7:=P7.out.below hb9 P7.out.lt
      have Hb9:=Lib.hid (below_seq Hb8.out hb9)
      clear hb9 Hb8 HP P7 z0 z1 z2 z3 z4 z5 z6
      have z0:=p7.cell 0
      change World.cell? _ _=some _ at z0
      have z1:=p7.cell 1
      change World.cell? _ _=some _ at z1
      have z2:=p7.cell 2
      change World.cell? _ _=some _ at z2
      have z3:=p7.cell 3
      change World.cell? _ _=some _ at z3
      have z4:=p7.cell 4
      change World.cell? _ _=some _ at z4
      have z5:=p7.cell 5
      change World.cell? _ _=some _ at z5
      have z6:=p7.cell 6
      change World.cell? _ _=some _ at z6
      have hg9:g7<w9.heap.size:=p7.lt
      have hne1:g7≠w9.heap.size:=by omega
      have hne2:g7≠w9.heap.size+1:=by omega
      have hbe:Below w9.heap.size w9 ((w9.alloc (.cells #[.int .i64 0,.slice none 0 0,.slice none 0 0] 49)).alloc (.cells #[.int .i64 2,.string key,.string s,.int .i64 0,.slice na 0 nk,.slice oa 0 ok,.bool false] 34)):=((Below.refl _ w9).alloc (Nat.le_refl _) _).alloc (by simp) _
      have hsm:=refOrcSame_any 2 key s 0 false [] [] _ _ (.slice none 0 0) (.slice none 0 0) _ (owns_below hN hbe) (owns_below hC hbe) (World.ownsRow_nil _ _ _ 2) (World.ownsRow_nil _ _ _ 3)
      unfold Orc.vals at hsm
      have Hsm:=Lib.hid hsm
      have Hbe:=Lib.hid (below_seq Hb9.out hbe)
      clear hsm hbe hN hC Hb9 p7
      go_wp2_with fail
      refine Hsm.out.mono ?_
      rintro e w10 ⟨rfl,hb10⟩
      have Hb10:=Lib.hid (below_seq Hbe.out hb10)
      clear hb10 Hbe Hsm
      go_wp2
      go_ret
      exact⟨rfl,Hb10.out⟩
theorem own:ownKnob Tryz.prog.godebug=none:=by kernel_rfl
theorem lay:laidOutB Tryz.prog=true:=by kernel_rfl
theorem lifted (os:Os) (started:os.Started) (H:Type) (enc:TypeId × Value→H):
 ReturnsInHanded {} Tryz.checked os 11 .any (Rows.planBatchSpec.pre6 enc Tryz.prog Tryz.f11 Rows.planBatchRow.domain false) (Rows.planBatchSpec.post enc Tryz.prog Tryz.f11 false true false false):=by
 refine returnsInHanded_of_change_shaped (C:=Tryz.checked) own started (by kernel_rfl) Tryz.func11
  (ChangeSpec.witness6 (enc:=enc) (C:=Tryz.checked) false ⟨#[],#[.int .i64 0,.int .i64 0],[]⟩ 8 (by kernel_rfl) (by kernel_rfl) (by kernel_rfl) (by kernel_rfl)) ?_
 intro W base args ds gs before hval0 hW hcnd hsz0 hsh _
 have hval:∀(j:Nat) t v,Tryz.f11.params[j]? =some t→args[j]? =some v→Value.okWide Tryz.prog W .any base t v:=hval0
 have hsz:(DataW.weightsEach Tryz.prog (Tryz.f11.params.toList++Rows.planBatchSpec.plain.varTypes Tryz.prog) (ds++gs)).all (· ≤reachBytes)=true:=hsz0
 have hW':=hW
 obtain⟨p,q,hA0,hV,rfl,hfz,hnd⟩:=hW
 have hA:DataW.TrodAll enc Tryz.prog W 0 (fun _=>true) true Tryz.f11.params.toList args.toList ds p:=hA0
 rw [Tryz.params11] at hA hval hsz
 obtain⟨v0,vs0,d0,ds0,p0,q0,hargs,rfl,rfl,h0,r0⟩:=trodAll_cons hA
 obtain⟨v1,vs1,d1,ds1,p1,q1,rfl,rfl,rfl,h1,r1⟩:=trodAll_cons r0
 obtain⟨rfl,rfl,rfl⟩:=trodAll_nil r1
 obtain rfl:args=#[v0,v1]:=by cases args;simp_all
 obtain⟨rfl,rfl⟩:=trodVars_none hV
 obtain⟨a0,rfl,rfl,rfl,w0⟩:=open_int Tryz.underlying3 (hval 0 3 v0 rfl rfl) h0
 obtain⟨a1,rfl,rfl,rfl,w1⟩:=open_int Tryz.underlying3 (hval 1 3 v1 rfl rfl) h1
 obtain⟨kw,hkw⟩:=Sha.words_of hsh
 letI:Sha.Words:=⟨kw⟩
 have hRI:Sha.RoundIn W:=hkw
 refine(walk a0 (bounds_i64 w0) a1 (bounds_i64 w1) W hRI).mono fun e W' ⟨he,hg⟩=> ?_
 subst he
 have hts:∀ t∈Tryz.f11.params.toList,Tryz.prog.readableRec t=true∧t<Tryz.prog.types.size:=by
  rw [Tryz.params11]
  intro t ht
  simp only [List.mem_cons,List.not_mem_nil,or_false] at ht
  rcases ht with rfl | rfl <;> exact⟨by kernel_rfl,of_decide_eq_true (by kernel_rfl)⟩
 exact⟨_,rfl,post_true lay hts (by kernel_rfl) Tryz.underlying4 rfl rfl hW' hg⟩
end Go.Proofs.YtpnbkfboneabaaaGreat.planBatch
