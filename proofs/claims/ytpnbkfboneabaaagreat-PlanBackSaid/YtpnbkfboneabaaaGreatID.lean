import Derived.Test.YtpnbkfboneabaaaGreatIC
set_option maxRecDepth 100000
set_option maxHeartbeats 16000000
namespace Go.Proofs.YtpnbkfboneabaaaGreat
open Go.RowKit
theorem box4 (w:World) (cs ds es fs:Array Value) (t u v x:TypeId):
 Row ((((w.alloc (.cells cs t)).alloc (.cells ds u)).alloc (.cells es v)).alloc (.cells fs x)) w.heap.size t cs∧Row ((((w.alloc (.cells cs t)).alloc (.cells ds u)).alloc (.cells es v)).alloc (.cells fs x)) (w.heap.size+1) u ds∧
 Row ((((w.alloc (.cells cs t)).alloc (.cells ds u)).alloc (.cells es v)).alloc (.cells fs x)) (w.heap.size+1+1) v es∧Row ((((w.alloc (.cells cs t)).alloc (.cells ds u)).alloc (.cells es v)).alloc (.cells fs x)) (w.heap.size+3) x fs∧
 Below w.heap.size w ((((w.alloc (.cells cs t)).alloc (.cells ds u)).alloc (.cells es v)).alloc (.cells fs x))∧((((w.alloc (.cells cs t)).alloc (.cells ds u)).alloc (.cells es v)).alloc (.cells fs x)).heap.size=w.heap.size+4:=by
 obtain⟨h1,h2,h3,h4,h5⟩:=box3 w cs ds es t u v
 refine⟨h1.alloc _,h2.alloc _,h3.alloc _,?_,h4.alloc (by omega) _,by simp⟩
 have h6:=Row.new (((w.alloc (.cells cs t)).alloc (.cells ds u)).alloc (.cells es v)) x fs
 rwa [h5] at h6
def NewCl (w:World) (h:Nat) (tb:ByteArray) (p:Nat) (b:Bool) (nm:List (ByteArray × ByteArray)) (cl:List (ByteArray × ByteArray × ByteArray)) (wx:World):Prop:=
 ∃ nv' cv',Row wx h 32 #[.string tb,.int .i64 (p:Int),nv',cv',.bool b]∧Row wx (h+3) 32 #[.string ⟨#[]⟩,.int .i64 0,.slice none 0 0,.slice none 0 0,.bool false]∧NmAt wx (h+4) nv' nm∧ClAt wx (h+4) cv' cl∧Below h w wx
theorem newCl_end {w wa:World} {tb:ByteArray} {p pp:Nat} {nv cv:Value} {cb:Bool} {nm:List (ByteArray × ByteArray)} {cl:List (ByteArray × ByteArray × ByteArray)} {lb tx S:ByteArray} {b1:Option Addr} {k1:Nat}
 (ya:Row wa w.heap.size 32 #[.string tb,.int .i64 (p:Int),nv,cv,.bool cb]) (ra:Row wa (w.heap.size+3) 32 #[.string ⟨#[]⟩,.int .i64 0,.slice none 0 0,.slice none 0 0,.bool false])
 (hown:wa.ownsRow (w.heap.size+4) 136 3 (.slice b1 (cl.length+1) k1) (cl.length+1) (Idl.clCells cl++[.string lb,.string tx,.string S])) (hca:NmAt wa (w.heap.size+4) nv nm) (hba:Below w.heap.size w wa):
 NewCl w w.heap.size tb pp cb nm (cl++[(lb,tx,S)]) (((wa.setCell ⟨w.heap.size,0,none⟩ (.string tb)).setCell ⟨w.heap.size,1,none⟩ (.int .i64 (pp:Int))).setCell ⟨w.heap.size,3,none⟩ (.slice b1 (cl.length+1) k1)):=by
 refine⟨_,_,((ya.store 0 _).store 1 _).store 3 _,((ra.other (a:=⟨w.heap.size,0,none⟩) (by simp) _).other (a:=⟨w.heap.size,1,none⟩) (by simp) _).other (a:=⟨w.heap.size,3,none⟩) (by simp) _,?_,?_,?_⟩
 · exact ownsRow_setCell_below (a:=⟨w.heap.size,3,none⟩) (ownsRow_setCell_below (a:=⟨w.heap.size,1,none⟩) (ownsRow_setCell_below (a:=⟨w.heap.size,0,none⟩) hca (by show w.heap.size<w.heap.size+4;omega) _) (by show w.heap.size<w.heap.size+4;omega) _) (by show w.heap.size<w.heap.size+4;omega) _
 · unfold ClAt
   rw [List.length_append,Idl.clCells_append]
   exact ownsRow_setCell_below (a:=⟨w.heap.size,3,none⟩) (ownsRow_setCell_below (a:=⟨w.heap.size,1,none⟩) (ownsRow_setCell_below (a:=⟨w.heap.size,0,none⟩) hown (by show w.heap.size<w.heap.size+4;omega) _) (by show w.heap.size<w.heap.size+4;omega) _) (by show w.heap.size<w.heap.size+4;omega) _
 · exact((hba.setCell (p:=⟨w.heap.size,0,none⟩) (Nat.le_refl _) _).setCell (p:=⟨w.heap.size,1,none⟩) (Nat.le_refl _) _).setCell (p:=⟨w.heap.size,3,none⟩) (Nat.le_refl _) _
theorem Cell_found (d:Idl) (hg:d.Good) (nv cv:Value) (lb tx:ByteArray) (hlb:lb.size=16) (htx:tx.size=24) (s:ByteArray) (hf:(lb,tx,s)∈d.cl) (w:World) (hN:NmAt w 0 nv d.nm) (hC:ClAt w 0 cv d.cl):
 Calls Tryz.prog 196 #[.agg (Idl.vals d.tb d.pos nv cv d.clash),.string lb,.string tx] w fun e w'=>∃ nv' cv',e= .returned (.tuple #[.string s,.agg (Idl.vals d.tb d.pos nv' cv' d.clash),.int .i64 0])∧NmAt w' w.heap.size nv' d.nm∧ClAt w' w.heap.size cv' d.cl∧Below w.heap.size w w':=by
 have hnl:=hg.nms
 have hcl:=hg.cls
 have hOw:=fun w1 (hb:Below w.heap.size w w1)=>own_any d.tb d.pos nv cv d.clash d (by omega) (by omega) w1 (owns_below hN hb) (owns_below hC hb)
 have hRi:=fun w1 (hb:Below w.heap.size w w1)=>idealRight_any d hg nv cv w1 (owns_below hN hb) (owns_below hC hb)
 have hFi:=fun w1 (hb:Below w.heap.size w w1) (hr:Row w1 (w.heap.size+1) 9 #[.string lb]) (hr2:Row w1 (w.heap.size+1+1) 9 #[.string tx])=>findCl_any d.cl cv (fun x=>decide (x.1=lb∧x.2.1=tx)) 209 #[.pointer (some ⟨w.heap.size+1,0,none⟩),.pointer (some ⟨w.heap.size+1+1,0,none⟩)] enters_seal w1 (owns_below hC hb)
  (seal_pred lb tx (w.heap.size+1) (w.heap.size+1+1) _ (hr.alloc _).lt (hr2.alloc _).lt ((hr.alloc _).cell 0) ((hr2.alloc _).cell 0))
 obtain⟨na,nk,rfl⟩:=slice_of hN
 obtain⟨ca,ck,rfl⟩:=slice_of hC
 have hmf:∀(fn:Fn) (first cap:Array Value) (w:World),(Instr.makeFunc fn first cap).run Tryz.prog w= .ok (.func fn first cap) w:=fun _ _ _ _=>rfl
 unfold Idl.vals at*
 obtain⟨p0,q0,s0,r0,hb0,hz0⟩:=box4 w #[.string d.tb,.int .i64 (d.pos:Int),.slice na d.nm.length nk,.slice ca d.cl.length ck,.bool d.clash] #[.string lb] #[.string tx] #[.string ⟨#[]⟩,.int .i64 0,.slice none 0 0,.slice none 0 0,.bool false] 32 9 9 32
 have il:(lb.size:Int)=16:=by omega
 have ix:(tx.size:Int)=24:=by omega
 have HOw:=Lib.hid hOw
 have HRi:=Lib.hid hRi
 have HFi:=Lib.hid hFi
 have HNw:=Lib.hid hN
 have HCw:=Lib.hid hC
 clear hOw hRi hFi hN hC
 go_enter Tryz.func196,Tryz.ntmps196
 go_wp2_with fail
 refine(HOw.out _ hb0).mono ?_
 rintro e w1 ⟨nvo,cvo,rfl,hno,hco,hb1⟩
 obtain⟨oa,ok_,rfl⟩:=slice_of hno
 obtain⟨oc,oc_,rfl⟩:=slice_of hco
 have p1:=p0.below hb1 p0.lt
 have q1:=q0.below hb1 q0.lt
 have s1:=s0.below hb1 s0.lt
 have r1:=r0.below hb1 r0.lt
 have hbx:Below w.heap.size w w1:=hb0.trans (hb1.mono hb0.size)
 have hk1:w.heap.size+4≤w1.heap.size:=by have:=hb1.size;omega
 obtain⟨k,hk⟩:∃ k,w1.heap.size=k:=⟨_,rfl⟩
 rw [hz0] at hno hco
 have c0:w1.cell? ⟨w.heap.size,0,none⟩=some (.string d.tb):=p1.cell 0
 have c1:w1.cell? ⟨w.heap.size,1,none⟩=some (.int .i64 (d.pos:Int)):=p1.cell 1
 have c2:w1.cell? ⟨w.heap.size,2,none⟩=some (.slice na d.nm.length nk):=p1.cell 2
 have c3:w1.cell? ⟨w.heap.size,3,none⟩=some (.slice ca d.cl.length ck):=p1.cell 3
 have c4:w1.cell? ⟨w.heap.size,4,none⟩=some (.bool d.clash):=p1.cell 4
 have cq:w1.cell? ⟨w.heap.size+1,0,none⟩=some (.string lb):=q1.cell 0
 have cx:w1.cell? ⟨w.heap.size+1+1,0,none⟩=some (.string tx):=s1.cell 0
 have hbo:Below w.heap.size w (w1.alloc (.cells #[.string d.tb,.int .i64 (d.pos:Int),.slice oa d.nm.length ok_,.slice oc d.cl.length oc_,.bool d.clash] 32)):=hbx.alloc hbx.size _
 have ho1:Row (w1.alloc (.cells #[.string d.tb,.int .i64 (d.pos:Int),.slice oa d.nm.length ok_,.slice oc d.cl.length oc_,.bool d.clash] 32)) k 32 #[.string d.tb,.int .i64 (d.pos:Int),.slice oa d.nm.length ok_,.slice oc d.cl.length oc_,.bool d.clash]:=by rw [← hk];exact Row.new w1 _ _
 have hno1:NmAt (w1.alloc (.cells #[.string d.tb,.int .i64 (d.pos:Int),.slice oa d.nm.length ok_,.slice oc d.cl.length oc_,.bool d.clash] 32)) (w.heap.size+4) (.slice oa d.nm.length ok_) d.nm:=owns_below hno ((Below.refl _ w1).alloc (Nat.le_refl _) _)
 have hco1:ClAt (w1.alloc (.cells #[.string d.tb,.int .i64 (d.pos:Int),.slice oa d.nm.length ok_,.slice oc d.cl.length oc_,.bool d.clash] 32)) (w.heap.size+4) (.slice oc d.cl.length oc_) d.cl:=owns_below hco ((Below.refl _ w1).alloc (Nat.le_refl _) _)
 have Ho1:=Lib.hid ho1
 have Hno1:=Lib.hid hno1
 have Hco1:=Lib.hid hco1
 have Hp1:=Lib.hid (p1.alloc (.cells #[.string d.tb,.int .i64 (d.pos:Int),.slice oa d.nm.length ok_,.slice oc d.cl.length oc_,.bool d.clash] 32))
 have Hq1:=Lib.hid (q1.alloc (.cells #[.string d.tb,.int .i64 (d.pos:Int),.slice oa d.nm.length ok_,.slice oc d.cl.length oc_,.bool d.clash] 32))
 have Hs1:=Lib.hid (s1.alloc (.cells #[.string d.tb,.int .i64 (d.pos:Int),.slice oa d.nm.length ok_,.slice oc d.cl.length oc_,.bool d.clash] 32))
 have Hr1:=Lib.hid (r1.alloc (.cells #[.string d.tb,.int .i64 (d.pos:Int),.slice oa d.nm.length ok_,.slice oc d.cl.length oc_,.bool d.clash] 32))
 have Hbo:=Lib.hid hbo
 have n1:w.heap.size<k:=by omega
 have n2:w.heap.size≠k:=by omega
 have n3:w.heap.size+1<k:=by omega
 have n4:w.heap.size+1≠k:=by omega
 have n5:w.heap.size+1+1<k:=by omega
 have n6:w.heap.size+1+1≠k:=by omega
 clear hno hco hno1 hco1 ho1 hbo hb1 hbx p0 q0 s0 r0 p1 q1 s1 r1 hb0
 go_wp2_with fail
 refine(HRi.out _ Hbo.out).mono ?_
 rintro e w2 ⟨rfl,hb2⟩
 have hsz2:=hb2.size
 rw [World.size_alloc,hk] at hsz2
 have p2:=Hp1.out.below hb2 Hp1.out.lt
 have q2:=Hq1.out.below hb2 Hq1.out.lt
 have s2:=Hs1.out.below hb2 Hs1.out.lt
 have r2:=Hr1.out.below hb2 Hr1.out.lt
 have o2:=Ho1.out.below hb2 Ho1.out.lt
 have hno2:=owns_below Hno1.out hb2
 have hco2:=owns_below Hco1.out hb2
 have hbx:Below w.heap.size w w2:=Hbo.out.trans (hb2.mono Hbo.out.size)
 clear n1 n2 n3 n4 n5 n6 c0 c1 c2 c3 c4 cq cx
 have c0:w2.cell? ⟨w.heap.size,0,none⟩=some (.string d.tb):=p2.cell 0
 have c1:w2.cell? ⟨w.heap.size,1,none⟩=some (.int .i64 (d.pos:Int)):=p2.cell 1
 have c2:w2.cell? ⟨w.heap.size,2,none⟩=some (.slice na d.nm.length nk):=p2.cell 2
 have c3:w2.cell? ⟨w.heap.size,3,none⟩=some (.slice ca d.cl.length ck):=p2.cell 3
 have c4:w2.cell? ⟨w.heap.size,4,none⟩=some (.bool d.clash):=p2.cell 4
 have cq:w2.cell? ⟨w.heap.size+1,0,none⟩=some (.string lb):=q2.cell 0
 have cx:w2.cell? ⟨w.heap.size+1+1,0,none⟩=some (.string tx):=s2.cell 0
 have Hp2:=Lib.hid p2
 have Hq2:=Lib.hid q2
 have Hs2:=Lib.hid s2
 have Hr2:=Lib.hid r2
 have Ho2:=Lib.hid o2
 have Hno2:=Lib.hid hno2
 have Hco2:=Lib.hid hco2
 have Hbx:=Lib.hid hbx
 clear p2 q2 s2 r2 o2 hno2 hco2 hbx hb2 Hp1 Hq1 Hs1 Hr1 Ho1 Hno1 Hco1 Hbo
 go_wp2_with fail
 refine(HFi.out _ Hbx.out Hq2.out Hs2.out).mono ?_
 rintro e w3 ⟨hcase,hb3⟩
 have hsz3:=hb3.size
 have p3:=Hp2.out.below hb3 Hp2.out.lt
 have q3:=Hq2.out.below hb3 Hq2.out.lt
 have s3:=Hs2.out.below hb3 Hs2.out.lt
 have r3:=Hr2.out.below hb3 Hr2.out.lt
 have o3:=Ho2.out.below hb3 Ho2.out.lt
 have hno3:=owns_below Hno2.out hb3
 have hco3:=owns_below Hco2.out hb3
 have hbx:Below w.heap.size w w3:=Hbx.out.trans (hb3.mono Hbx.out.size)
 clear c0 c1 c2 c3 c4 cq cx Hp2 Hq2 Hs2 Hr2 Ho2 Hno2 Hco2 Hbx hb3
 have hfd:d.cl.find? (fun x=>decide (x.1=lb∧x.2.1=tx))=some (lb,tx,s):=Idl.find_first (f:=fun x:ByteArray × ByteArray × ByteArray=>(x.1,x.2.1)) hg.made hf (by simp)
 rw [hfd] at hcase
 rcases hcase with ⟨h,-⟩ | ⟨x,hx,rfl⟩
 · cases h
 obtain rfl:=Option.some.inj hx
 obtain⟨w4,hw4⟩:∃ w4,w3.alloc (.cells #[.string lb,.string tx,.string s] 136)=w4:=⟨_,rfl⟩
 have hb4:Below w3.heap.size w3 w4:=by rw [← hw4];exact(Below.refl _ w3).alloc (Nat.le_refl _) _
 have x4:Row w4 w3.heap.size 136 #[.string lb,.string tx,.string s]:=by rw [← hw4];exact Row.new w3 _ _
 have r4:=r3.below hb4 r3.lt
 have o4:=o3.below hb4 o3.lt
 have Hno4:=Lib.hid (owns_below hno3 hb4)
 have Hco4:=Lib.hid (owns_below hco3 hb4)
 have Hb4:=Lib.hid (hbx.trans (hb4.mono hbx.size))
 go_wp2
 clear hno3 hco3 hbx p3 q3 s3 r3 o3 hf hfd hx hw4 hb4
 have x1:w4.cell? ⟨w3.heap.size,2,none⟩=some (.string s):=x4.cell 2
 have y0:w4.cell? ⟨k,0,none⟩=some (.string d.tb):=o4.cell 0
 have y1:w4.cell? ⟨k,1,none⟩=some (.int .i64 (d.pos:Int)):=o4.cell 1
 have y2:w4.cell? ⟨k,2,none⟩=some (.slice oa d.nm.length ok_):=o4.cell 2
 have y3:w4.cell? ⟨k,3,none⟩=some (.slice oc d.cl.length oc_):=o4.cell 3
 have y4:w4.cell? ⟨k,4,none⟩=some (.bool d.clash):=o4.cell 4
 have e0:w4.cell? ⟨w.heap.size+3,0,none⟩=some (.string ⟨#[]⟩):=r4.cell 0
 have e1:w4.cell? ⟨w.heap.size+3,1,none⟩=some (.int .i64 0):=r4.cell 1
 have e2:w4.cell? ⟨w.heap.size+3,2,none⟩=some (.slice none 0 0):=r4.cell 2
 have e3:w4.cell? ⟨w.heap.size+3,3,none⟩=some (.slice none 0 0):=r4.cell 3
 have e4:w4.cell? ⟨w.heap.size+3,4,none⟩=some (.bool false):=r4.cell 4
 have f0:=r4.frozen 0
 have f1:=r4.frozen 1
 have f2:=r4.frozen 2
 have f3:=r4.frozen 3
 have f4:=r4.frozen 4
 have m5:w.heap.size+3≠k:=by omega
 have Hr4:=Lib.hid r4
 clear r4 o4 x4
 have y0:Row w4 (w.heap.size+1+1+1) 32 #[.string ⟨#[]⟩,.int .i64 0,.slice none 0 0,.slice none 0 0,.bool false]:=Hr4.out
 have n0:=Hno4.out
 have l0:=Hco4.out
 have b0:=Hb4.out
 have y1:Row (w4.setCell ⟨w.heap.size+1+1+1,0,none⟩ (.string d.tb)) (w.heap.size+1+1+1) 32 #[.string d.tb,.int .i64 0,.slice none 0 0,.slice none 0 0,.bool false]:=y0.store 0 _
 have n1:=ownsRow_setCell_below (a:=⟨w.heap.size+1+1+1,0,none⟩) n0 (by show w.heap.size+1+1+1<w.heap.size+4;omega) (.string d.tb)
 have l1:=ownsRow_setCell_below (a:=⟨w.heap.size+1+1+1,0,none⟩) l0 (by show w.heap.size+1+1+1<w.heap.size+4;omega) (.string d.tb)
 have b1:=Below.setCell b0 (p:=⟨w.heap.size+1+1+1,0,none⟩) (by show w.heap.size≤w.heap.size+1+1+1;omega) (.string d.tb)
 have y2:Row ((w4.setCell ⟨w.heap.size+1+1+1,0,none⟩ (.string d.tb)).setCell ⟨w.heap.size+1+1+1,1,none⟩ (.int .i64 (d.pos:Int))) (w.heap.size+1+1+1) 32 #[.string d.tb,.int .i64 (d.pos:Int),.slice none 0 0,.slice none 0 0,.bool false]:=y1.store 1 _
 have n2:=ownsRow_setCell_below (a:=⟨w.heap.size+1+1+1,1,none⟩) n1 (by show w.heap.size+1+1+1<w.heap.size+4;omega) (.int .i64 (d.pos:Int))
 have l2:=ownsRow_setCell_below (a:=⟨w.heap.size+1+1+1,1,none⟩) l1 (by show w.heap.size+1+1+1<w.heap.size+4;omega) (.int .i64 (d.pos:Int))
 have b2:=Below.setCell b1 (p:=⟨w.heap.size+1+1+1,1,none⟩) (by show w.heap.size≤w.heap.size+1+1+1;omega) (.int .i64 (d.pos:Int))
 have y3:Row (((w4.setCell ⟨w.heap.size+1+1+1,0,none⟩ (.string d.tb)).setCell ⟨w.heap.size+1+1+1,1,none⟩ (.int .i64 (d.pos:Int))).setCell ⟨w.heap.size+1+1+1,2,none⟩ (.slice oa d.nm.length ok_)) (w.heap.size+1+1+1) 32 #[.string d.tb,.int .i64 (d.pos:Int),.slice oa d.nm.length ok_,.slice none 0 0,.bool false]:=y2.store 2 _
 have n3:=ownsRow_setCell_below (a:=⟨w.heap.size+1+1+1,2,none⟩) n2 (by show w.heap.size+1+1+1<w.heap.size+4;omega) (.slice oa d.nm.length ok_)
 have l3:=ownsRow_setCell_below (a:=⟨w.heap.size+1+1+1,2,none⟩) l2 (by show w.heap.size+1+1+1<w.heap.size+4;omega) (.slice oa d.nm.length ok_)
 have b3:=Below.setCell b2 (p:=⟨w.heap.size+1+1+1,2,none⟩) (by show w.heap.size≤w.heap.size+1+1+1;omega) (.slice oa d.nm.length ok_)
 have y4:Row ((((w4.setCell ⟨w.heap.size+1+1+1,0,none⟩ (.string d.tb)).setCell ⟨w.heap.size+1+1+1,1,none⟩ (.int .i64 (d.pos:Int))).setCell ⟨w.heap.size+1+1+1,2,none⟩ (.slice oa d.nm.length ok_)).setCell ⟨w.heap.size+1+1+1,3,none⟩ (.slice oc d.cl.length oc_)) (w.heap.size+1+1+1) 32 #[.string d.tb,.int .i64 (d.pos:Int),.slice oa d.nm.length ok_,.slice oc d.cl.length oc_,.bool false]:=y3.store 3 _
 have n4:=ownsRow_setCell_below (a:=⟨w.heap.size+1+1+1,3,none⟩) n3 (by show w.heap.size+1+1+1<w.heap.size+4;omega) (.slice oc d.cl.length oc_)
 have l4:=ownsRow_setCell_below (a:=⟨w.heap.size+1+1+1,3,none⟩) l3 (by show w.heap.size+1+1+1<w.heap.size+4;omega) (.slice oc d.cl.length oc_)
 have b4:=Below.setCell b3 (p:=⟨w.heap.size+1+1+1,3,none⟩) (by show w.heap.size≤w.heap.size+1+1+1;omega) (.slice oc d.cl.length oc_)
 have y5:Row (((((w4.setCell ⟨w.heap.size+1+1+1,0,none⟩ (.string d.tb)).setCell ⟨w.heap.size+1+1+1,1,none⟩ (.int .i64 (d.pos:Int))).setCell ⟨w.heap.size+1+1+1,2,none⟩ (.slice oa d.nm.length ok_)).setCell ⟨w.heap.size+1+1+1,3,none⟩ (.slice oc d.cl.length oc_)).setCell ⟨w.heap.size+1+1+1,4,none⟩ (.bool d.clash)) (w.heap.size+1+1+1) 32 #[.string d.tb,.int .i64 (d.pos:Int),.slice oa d.nm.length ok_,.slice oc d.cl.length oc_,.bool d.clash]:=y4.store 4 _
 have n5:=ownsRow_setCell_below (a:=⟨w.heap.size+1+1+1,4,none⟩) n4 (by show w.heap.size+1+1+1<w.heap.size+4;omega) (.bool d.clash)
 have l5:=ownsRow_setCell_below (a:=⟨w.heap.size+1+1+1,4,none⟩) l4 (by show w.heap.size+1+1+1<w.heap.size+4;omega) (.bool d.clash)
 have b5:=Below.setCell b4 (p:=⟨w.heap.size+1+1+1,4,none⟩) (by show w.heap.size≤w.heap.size+1+1+1;omega) (.bool d.clash)
 obtain⟨WF,hWF⟩:∃ WF,(((((w4.setCell ⟨w.heap.size+1+1+1,0,none⟩ (.string d.tb)).setCell ⟨w.heap.size+1+1+1,1,none⟩ (.int .i64 (d.pos:Int))).setCell ⟨w.heap.size+1+1+1,2,none⟩ (.slice oa d.nm.length ok_)).setCell ⟨w.heap.size+1+1+1,3,none⟩ (.slice oc d.cl.length oc_)).setCell ⟨w.heap.size+1+1+1,4,none⟩ (.bool d.clash))=WF:=⟨_,rfl⟩
 rw [hWF] at y5 n5 l5 b5
 clear y0 y1 y2 y3 y4 n0 n1 n2 n3 n4 l0 l1 l2 l3 l4 b0 b1 b2 b3 b4
 have Hy:=Lib.hid y5
 have Hn:=Lib.hid n5
 have Hl:=Lib.hid l5
 have Hbf:=Lib.hid b5
 clear y5 n5 l5 b5 Hr4 Hno4 Hco4 Hb4
 go_region
 all_goals
  go_wp2
  refine bodyPost_ret (results_tct _ _ (g:=w.heap.size+1+1+1) (t:=32) rfl rfl Hy.out.drew Tryz.underlying32 rfl (by kernel_rfl)) rfl ⟨_,_,rfl,?_,?_,?_⟩
  · exact ownsRow_weak (W:=WF.drew) Hn.out (by omega)
  · exact ownsRow_weak (W:=WF.drew) Hl.out (by omega)
  · exact Hbf.out.drew
theorem Cell_new (d:Idl) (hg:d.Good) (nv cv:Value) (lb tx:ByteArray) (hlb:lb.size=16) (htx:tx.size=24) (hf:(lb,tx) ∉ d.made) (hl:d.cl.length≠2000) (hp:d.pos+40≤d.tb.size) (w:World) (hN:NmAt w 0 nv d.nm) (hC:ClAt w 0 cv d.cl):
 Calls Tryz.prog 196 #[.agg (Idl.vals d.tb d.pos nv cv d.clash),.string lb,.string tx] w fun e w'=>∃ nv' cv',e= .returned (.tuple #[.string (d.tb.extract d.pos (d.pos+40)),.agg (Idl.vals d.tb (d.pos+40) nv' cv' (d.celled lb tx).clash),.int .i64 0])∧NmAt w' w.heap.size nv' d.nm∧ClAt w' w.heap.size cv' (d.celled lb tx).cl∧Below w.heap.size w w':=by
 have hnl:=hg.nms
 have hcl:=hg.cls
 have hOw:=fun w1 (hb:Below w.heap.size w w1)=>own_any d.tb d.pos nv cv d.clash d (by omega) (by omega) w1 (owns_below hN hb) (owns_below hC hb)
 have hRi:=fun w1 (hb:Below w.heap.size w w1)=>idealRight_any d hg nv cv w1 (owns_below hN hb) (owns_below hC hb)
 have hFi:=fun w1 (hb:Below w.heap.size w w1) (hr:Row w1 (w.heap.size+1) 9 #[.string lb]) (hr2:Row w1 (w.heap.size+1+1) 9 #[.string tx])=>findCl_any d.cl cv (fun x=>decide (x.1=lb∧x.2.1=tx)) 209 #[.pointer (some ⟨w.heap.size+1,0,none⟩),.pointer (some ⟨w.heap.size+1+1,0,none⟩)] enters_seal w1 (owns_below hC hb)
  (seal_pred lb tx (w.heap.size+1) (w.heap.size+1+1) _ (hr.alloc _).lt (hr2.alloc _).lt ((hr.alloc _).cell 0) ((hr2.alloc _).cell 0))
 obtain⟨na,nk,rfl⟩:=slice_of hN
 obtain⟨ca,ck,rfl⟩:=slice_of hC
 have hmf:∀(fn:Fn) (first cap:Array Value) (w:World),(Instr.makeFunc fn first cap).run Tryz.prog w= .ok (.func fn first cap) w:=fun _ _ _ _=>rfl
 unfold Idl.vals at*
 obtain⟨p0,q0,s0,r0,hb0,hz0⟩:=box4 w #[.string d.tb,.int .i64 (d.pos:Int),.slice na d.nm.length nk,.slice ca d.cl.length ck,.bool d.clash] #[.string lb] #[.string tx] #[.string ⟨#[]⟩,.int .i64 0,.slice none 0 0,.slice none 0 0,.bool false] 32 9 9 32
 have il:(lb.size:Int)=16:=by omega
 have ix:(tx.size:Int)=24:=by omega
 have HOw:=Lib.hid hOw
 have HRi:=Lib.hid hRi
 have HFi:=Lib.hid hFi
 have HNw:=Lib.hid hN
 have HCw:=Lib.hid hC
 clear hOw hRi hFi hN hC
 have hgn:=hg.celled hlb htx hf hl hp
 have hnn:=hgn.cls
 have hck:∀ x∈(d.celled lb tx).cl,x.1.size≤maxLen∧x.2.2.size≤maxLen:=fun x hx=>⟨(hgn.clk x hx).1,(hgn.clk x hx).2.2⟩
 have hcln:=fun w1 nv3 cv3 (tb:ByteArray) (p:Nat) (b:Bool) (h1:NmAt w1 0 nv3 d.nm) (h2:ClAt w1 0 cv3 (d.celled lb tx).cl)=>clash_any tb p nv3 cv3 b (d.celled lb tx) (by show d.nm.length≤100000;omega) (by omega) (fun x hx=>(hg.nmk x hx).2) hck w1 h1 h2
 have hT:=fun w1=>Take_any d.tb d.pos 40 hg.tb hp w1
 rw [show ((40:Nat):Int)=40 from rfl] at hT
 have hnmd:(d.celled lb tx).cl=d.cl++[(lb,tx,d.tb.extract d.pos (d.pos+40))]:=rfl
 rw [hnmd] at hcln ⊢
 clear hnmd hgn hnn hck
 unfold Idl.vals at*
 generalize (d.celled lb tx).clash=ncl at*
 have hSs:(d.tb.extract d.pos (d.pos+40)).size=40:=by rw [ByteArray.size_extract];omega
 generalize d.tb.extract d.pos (d.pos+40)=S at*
 obtain⟨pp,hpp⟩:∃ pp:Nat,d.pos+40=pp:=⟨_,rfl⟩
 rw [hpp] at hT ⊢
 have Hcln:=Lib.hid hcln
 have HT:=Lib.hid hT
 clear hcln hT
 go_enter Tryz.func196,Tryz.ntmps196
 go_wp2_with fail
 refine(HOw.out _ hb0).mono ?_
 rintro e w1 ⟨nvo,cvo,rfl,hno,hco,hb1⟩
 obtain⟨oa,ok_,rfl⟩:=slice_of hno
 obtain⟨oc,oc_,rfl⟩:=slice_of hco
 have p1:=p0.below hb1 p0.lt
 have q1:=q0.below hb1 q0.lt
 have s1:=s0.below hb1 s0.lt
 have r1:=r0.below hb1 r0.lt
 have hbx:Below w.heap.size w w1:=hb0.trans (hb1.mono hb0.size)
 have hk1:w.heap.size+4≤w1.heap.size:=by have:=hb1.size;omega
 obtain⟨k,hk⟩:∃ k,w1.heap.size=k:=⟨_,rfl⟩
 rw [hz0] at hno hco
 have c0:w1.cell? ⟨w.heap.size,0,none⟩=some (.string d.tb):=p1.cell 0
 have c1:w1.cell? ⟨w.heap.size,1,none⟩=some (.int .i64 (d.pos:Int)):=p1.cell 1
 have c2:w1.cell? ⟨w.heap.size,2,none⟩=some (.slice na d.nm.length nk):=p1.cell 2
 have c3:w1.cell? ⟨w.heap.size,3,none⟩=some (.slice ca d.cl.length ck):=p1.cell 3
 have c4:w1.cell? ⟨w.heap.size,4,none⟩=some (.bool d.clash):=p1.cell 4
 have cq:w1.cell? ⟨w.heap.size+1,0,none⟩=some (.string lb):=q1.cell 0
 have cx:w1.cell? ⟨w.heap.size+1+1,0,none⟩=some (.string tx):=s1.cell 0
 have hbo:Below w.heap.size w (w1.alloc (.cells #[.string d.tb,.int .i64 (d.pos:Int),.slice oa d.nm.length ok_,.slice oc d.cl.length oc_,.bool d.clash] 32)):=hbx.alloc hbx.size _
 have ho1:Row (w1.alloc (.cells #[.string d.tb,.int .i64 (d.pos:Int),.slice oa d.nm.length ok_,.slice oc d.cl.length oc_,.bool d.clash] 32)) k 32 #[.string d.tb,.int .i64 (d.pos:Int),.slice oa d.nm.length ok_,.slice oc d.cl.length oc_,.bool d.clash]:=by rw [← hk];exact Row.new w1 _ _
 have hno1:NmAt (w1.alloc (.cells #[.string d.tb,.int .i64 (d.pos:Int),.slice oa d.nm.length ok_,.slice oc d.cl.length oc_,.bool d.clash] 32)) (w.heap.size+4) (.slice oa d.nm.length ok_) d.nm:=owns_below hno ((Below.refl _ w1).alloc (Nat.le_refl _) _)
 have hco1:ClAt (w1.alloc (.cells #[.string d.tb,.int .i64 (d.pos:Int),.slice oa d.nm.length ok_,.slice oc d.cl.length oc_,.bool d.clash] 32)) (w.heap.size+4) (.slice oc d.cl.length oc_) d.cl:=owns_below hco ((Below.refl _ w1).alloc (Nat.le_refl _) _)
 have Ho1:=Lib.hid ho1
 have Hno1:=Lib.hid hno1
 have Hco1:=Lib.hid hco1
 have Hp1:=Lib.hid (p1.alloc (.cells #[.string d.tb,.int .i64 (d.pos:Int),.slice oa d.nm.length ok_,.slice oc d.cl.length oc_,.bool d.clash] 32))
 have Hq1:=Lib.hid (q1.alloc (.cells #[.string d.tb,.int .i64 (d.pos:Int),.slice oa d.nm.length ok_,.slice oc d.cl.length oc_,.bool d.clash] 32))
 have Hs1:=Lib.hid (s1.alloc (.cells #[.string d.tb,.int .i64 (d.pos:Int),.slice oa d.nm.length ok_,.slice oc d.cl.length oc_,.bool d.clash] 32))
 have Hr1:=Lib.hid (r1.alloc (.cells #[.string d.tb,.int .i64 (d.pos:Int),.slice oa d.nm.length ok_,.slice oc d.cl.length oc_,.bool d.clash] 32))
 have Hbo:=Lib.hid hbo
 have n1:w.heap.size<k:=by omega
 have n2:w.heap.size≠k:=by omega
 have n3:w.heap.size+1<k:=by omega
 have n4:w.heap.size+1≠k:=by omega
 have n5:w.heap.size+1+1<k:=by omega
 have n6:w.heap.size+1+1≠k:=by omega
 clear hno hco hno1 hco1 ho1 hbo hb1 hbx p0 q0 s0 r0 p1 q1 s1 r1 hb0
 go_wp2_with fail
 refine(HRi.out _ Hbo.out).mono ?_
 rintro e w2 ⟨rfl,hb2⟩
 have hsz2:=hb2.size
 rw [World.size_alloc,hk] at hsz2
 have p2:=Hp1.out.below hb2 Hp1.out.lt
 have q2:=Hq1.out.below hb2 Hq1.out.lt
 have s2:=Hs1.out.below hb2 Hs1.out.lt
 have r2:=Hr1.out.below hb2 Hr1.out.lt
 have o2:=Ho1.out.below hb2 Ho1.out.lt
 have hno2:=owns_below Hno1.out hb2
 have hco2:=owns_below Hco1.out hb2
 have hbx:Below w.heap.size w w2:=Hbo.out.trans (hb2.mono Hbo.out.size)
 clear n1 n2 n3 n4 n5 n6 c0 c1 c2 c3 c4 cq cx
 have c0:w2.cell? ⟨w.heap.size,0,none⟩=some (.string d.tb):=p2.cell 0
 have c1:w2.cell? ⟨w.heap.size,1,none⟩=some (.int .i64 (d.pos:Int)):=p2.cell 1
 have c2:w2.cell? ⟨w.heap.size,2,none⟩=some (.slice na d.nm.length nk):=p2.cell 2
 have c3:w2.cell? ⟨w.heap.size,3,none⟩=some (.slice ca d.cl.length ck):=p2.cell 3
 have c4:w2.cell? ⟨w.heap.size,4,none⟩=some (.bool d.clash):=p2.cell 4
 have cq:w2.cell? ⟨w.heap.size+1,0,none⟩=some (.string lb):=q2.cell 0
 have cx:w2.cell? ⟨w.heap.size+1+1,0,none⟩=some (.string tx):=s2.cell 0
 have Hp2:=Lib.hid p2
 have Hq2:=Lib.hid q2
 have Hs2:=Lib.hid s2
 have Hr2:=Lib.hid r2
 have Ho2:=Lib.hid o2
 have Hno2:=Lib.hid hno2
 have Hco2:=Lib.hid hco2
 have Hbx:=Lib.hid hbx
 clear p2 q2 s2 r2 o2 hno2 hco2 hbx hb2 Hp1 Hq1 Hs1 Hr1 Ho1 Hno1 Hco1 Hbo
 go_wp2_with fail
 refine(HFi.out _ Hbx.out Hq2.out Hs2.out).mono ?_
 rintro e w3 ⟨hcase,hb3⟩
 have hsz3:=hb3.size
 have p3:=Hp2.out.below hb3 Hp2.out.lt
 have q3:=Hq2.out.below hb3 Hq2.out.lt
 have s3:=Hs2.out.below hb3 Hs2.out.lt
 have r3:=Hr2.out.below hb3 Hr2.out.lt
 have o3:=Ho2.out.below hb3 Ho2.out.lt
 have hno3:=owns_below Hno2.out hb3
 have hco3:=owns_below Hco2.out hb3
 have hbx:Below w.heap.size w w3:=Hbx.out.trans (hb3.mono Hbx.out.size)
 clear c0 c1 c2 c3 c4 cq cx Hp2 Hq2 Hs2 Hr2 Ho2 Hno2 Hco2 Hbx hb3
 have hfd:d.cl.find? (fun x=>decide (x.1=lb∧x.2.1=tx))=none:=Idl.cell_none hf
 rw [hfd] at hcase
 rcases hcase with ⟨-,rfl⟩ | ⟨x,hx,-⟩
 rotate_left
 · cases hx
 obtain⟨w4,hw4⟩:∃ w4,w3.alloc (.cells #[.string ⟨#[]⟩,.string ⟨#[]⟩,.string ⟨#[]⟩] 136)=w4:=⟨_,rfl⟩
 have hb4:Below w3.heap.size w3 w4:=by rw [← hw4];exact(Below.refl _ w3).alloc (Nat.le_refl _) _
 have p4:=p3.below hb4 p3.lt
 have q4:=q3.below hb4 q3.lt
 have s4:=s3.below hb4 s3.lt
 have r4:=r3.below hb4 r3.lt
 have o4:=o3.below hb4 o3.lt
 have hno4:=owns_below hno3 hb4
 have hco4:=owns_below hco3 hb4
 have hbx4:=hbx.trans (hb4.mono hbx.size)
 have hlen:((d.cl.length:Int) == 2000)=false:=by rw [beq_eq_false_iff_ne];omega
 have c0:w3.cell? ⟨w.heap.size,0,none⟩=some (.string d.tb):=p3.cell 0
 have c1:w3.cell? ⟨w.heap.size,1,none⟩=some (.int .i64 (d.pos:Int)):=p3.cell 1
 have c2:w3.cell? ⟨w.heap.size,2,none⟩=some (.slice na d.nm.length nk):=p3.cell 2
 have c3:w3.cell? ⟨w.heap.size,3,none⟩=some (.slice ca d.cl.length ck):=p3.cell 3
 have c4:w3.cell? ⟨w.heap.size,4,none⟩=some (.bool d.clash):=p3.cell 4
 have Hp4:=Lib.hid p4
 have Hq4:=Lib.hid q4
 have Hs4:=Lib.hid s4
 have Hr4:=Lib.hid r4
 have Ho4:=Lib.hid o4
 have Hno4:=Lib.hid hno4
 have Hco4:=Lib.hid hco4
 have Hbx4:=Lib.hid hbx4
 have hk4:w3.heap.size≤w4.heap.size:=hb4.size
 have n1:w.heap.size<w3.heap.size:=p3.lt
 have n2:w.heap.size≠w3.heap.size:=by omega
 have Hw4:=Lib.hid hw4
 clear hno3 hco3 hbx p3 q3 s3 r3 o3 hfd hb4 p4 q4 s4 r4 o4 hno4 hco4 hbx4 hw4
 go_wp2_with fail
 rw [Hw4.out]
 clear c0 c1 c2 c3 c4 n1 n2
 refine(HT.out w4).mono ?_
 rintro e w5 ⟨rfl,hb5⟩
 clear HT
 obtain⟨w6,hw6⟩:∃ w6,w5.alloc (.cells #[.string d.tb,.int .i64 (pp:Int)] 23)=w6:=⟨_,rfl⟩
 have hb46:Below w4.heap.size w4 w6:=by rw [← hw6];exact hb5.alloc hb5.size _
 have t6:Row w6 w5.heap.size 23 #[.string d.tb,.int .i64 (pp:Int)]:=by rw [← hw6];exact Row.new w5 _ _
 have hk5:w4.heap.size≤w5.heap.size:=hb5.size
 obtain⟨kt,hkt⟩:∃ kt,w5.heap.size=kt:=⟨_,rfl⟩
 rw [hkt] at t6 hk5
 have p6:=Hp4.out.below hb46 Hp4.out.lt
 have q6:=Hq4.out.below hb46 Hq4.out.lt
 have s6:=Hs4.out.below hb46 Hs4.out.lt
 have r6:=Hr4.out.below hb46 Hr4.out.lt
 have o6:=Ho4.out.below hb46 Ho4.out.lt
 have hb06:=Hbx4.out.trans (hb46.mono Hbx4.out.size)
 have c0:w6.cell? ⟨w.heap.size,0,none⟩=some (.string d.tb):=p6.cell 0
 have c1:w6.cell? ⟨w.heap.size,1,none⟩=some (.int .i64 (d.pos:Int)):=p6.cell 1
 have c2:w6.cell? ⟨w.heap.size,2,none⟩=some (.slice na d.nm.length nk):=p6.cell 2
 have c3:w6.cell? ⟨w.heap.size,3,none⟩=some (.slice ca d.cl.length ck):=p6.cell 3
 have c4:w6.cell? ⟨w.heap.size,4,none⟩=some (.bool d.clash):=p6.cell 4
 have Hp6:=Lib.hid p6
 have Hq6:=Lib.hid q6
 have Hs6:=Lib.hid s6
 have Hr6:=Lib.hid r6
 have Ho6:=Lib.hid o6
 have Ht6:=Lib.hid t6
 have Hb6:=Lib.hid hb06
 clear Hp4 Hq4 Hs4 Hr4 Ho4 Hno4 Hco4 Hbx4 hb5 hb46 p6 q6 s6 r6 o6 t6 hb06
 go_wp2_with fail
 refine(HOw.out _ Hb6.out).mono ?_
 rintro e w7 ⟨nv2,cv2,rfl,hn2,hc2,hb7⟩
 obtain⟨a2,k2,rfl⟩:=slice_of hn2
 obtain⟨a3,k3,rfl⟩:=slice_of hc2
 have hk6:=Hr6.out.lt
 have hz7:=hb7.size
 have p7:=Hp6.out.below hb7 Hp6.out.lt
 have q7:=Hq6.out.below hb7 Hq6.out.lt
 have s7:=Hs6.out.below hb7 Hs6.out.lt
 have r7:=Hr6.out.below hb7 Hr6.out.lt
 have t7:=Ht6.out.below hb7 Ht6.out.lt
 have hvb:∀ b,(Value.slice a2 d.nm.length k2).ownBlock=some b→w6.heap.size≤b:=fun b hb=>own_block_ge hn2 hb
 have hkt6:kt<w6.heap.size:=Ht6.out.lt
 have hwb:∀ b,(Value.slice a3 d.cl.length k3).ownBlock=some b→w6.heap.size≤b:=fun b hb=>own_block_ge hc2 hb
 have hn7:NmAt w7 (w.heap.size+4) (.slice a2 d.nm.length k2) d.nm:=ownsRow_weak hn2 (by omega)
 have hc7:ClAt w7 (w.heap.size+4) (.slice a3 d.cl.length k3) d.cl:=ownsRow_weak hc2 (by omega)
 have hb07:=Hb6.out.trans (hb7.mono Hb6.out.size)
 clear c0 c1 c2 c3 c4
 have c0:w7.cell? ⟨w.heap.size,0,none⟩=some (.string d.tb):=p7.cell 0
 have c1:w7.cell? ⟨w.heap.size,1,none⟩=some (.int .i64 (d.pos:Int)):=p7.cell 1
 have c2:w7.cell? ⟨w.heap.size,2,none⟩=some (.slice na d.nm.length nk):=p7.cell 2
 have c3:w7.cell? ⟨w.heap.size,3,none⟩=some (.slice ca d.cl.length ck):=p7.cell 3
 have c4:w7.cell? ⟨w.heap.size,4,none⟩=some (.bool d.clash):=p7.cell 4
 have f0:=p7.frozen 0
 have f1:=p7.frozen 1
 have f2:=p7.frozen 2
 have f3:=p7.frozen 3
 have f4:=p7.frozen 4
 have y0:Row w7 (w.heap.size) 32 #[.string d.tb,.int .i64 (d.pos:Int),.slice na d.nm.length nk,.slice ca d.cl.length ck,.bool d.clash]:=p7
 have n0:=hn7
 have l0:=hc7
 have b0:=hb07
 have y1:Row (w7.setCell ⟨w.heap.size,0,none⟩ (.string d.tb)) (w.heap.size) 32 #[.string d.tb,.int .i64 (d.pos:Int),.slice na d.nm.length nk,.slice ca d.cl.length ck,.bool d.clash]:=y0.store 0 _
 have n1:=ownsRow_setCell_below (a:=⟨w.heap.size,0,none⟩) n0 (by show w.heap.size<w.heap.size+4;omega) (.string d.tb)
 have l1:=ownsRow_setCell_below (a:=⟨w.heap.size,0,none⟩) l0 (by show w.heap.size<w.heap.size+4;omega) (.string d.tb)
 have b1:=Below.setCell b0 (p:=⟨w.heap.size,0,none⟩) (by show w.heap.size≤w.heap.size;omega) (.string d.tb)
 have y2:Row ((w7.setCell ⟨w.heap.size,0,none⟩ (.string d.tb)).setCell ⟨w.heap.size,1,none⟩ (.int .i64 (d.pos:Int))) (w.heap.size) 32 #[.string d.tb,.int .i64 (d.pos:Int),.slice na d.nm.length nk,.slice ca d.cl.length ck,.bool d.clash]:=y1.store 1 _
 have n2:=ownsRow_setCell_below (a:=⟨w.heap.size,1,none⟩) n1 (by show w.heap.size<w.heap.size+4;omega) (.int .i64 (d.pos:Int))
 have l2:=ownsRow_setCell_below (a:=⟨w.heap.size,1,none⟩) l1 (by show w.heap.size<w.heap.size+4;omega) (.int .i64 (d.pos:Int))
 have b2:=Below.setCell b1 (p:=⟨w.heap.size,1,none⟩) (by show w.heap.size≤w.heap.size;omega) (.int .i64 (d.pos:Int))
 have y3:Row (((w7.setCell ⟨w.heap.size,0,none⟩ (.string d.tb)).setCell ⟨w.heap.size,1,none⟩ (.int .i64 (d.pos:Int))).setCell ⟨w.heap.size,2,none⟩ (.slice a2 d.nm.length k2)) (w.heap.size) 32 #[.string d.tb,.int .i64 (d.pos:Int),.slice a2 d.nm.length k2,.slice ca d.cl.length ck,.bool d.clash]:=y2.store 2 _
 have n3:=ownsRow_setCell_below (a:=⟨w.heap.size,2,none⟩) n2 (by show w.heap.size<w.heap.size+4;omega) (.slice a2 d.nm.length k2)
 have l3:=ownsRow_setCell_below (a:=⟨w.heap.size,2,none⟩) l2 (by show w.heap.size<w.heap.size+4;omega) (.slice a2 d.nm.length k2)
 have b3:=Below.setCell b2 (p:=⟨w.heap.size,2,none⟩) (by show w.heap.size≤w.heap.size;omega) (.slice a2 d.nm.length k2)
 have y4:Row ((((w7.setCell ⟨w.heap.size,0,none⟩ (.string d.tb)).setCell ⟨w.heap.size,1,none⟩ (.int .i64 (d.pos:Int))).setCell ⟨w.heap.size,2,none⟩ (.slice a2 d.nm.length k2)).setCell ⟨w.heap.size,3,none⟩ (.slice a3 d.cl.length k3)) (w.heap.size) 32 #[.string d.tb,.int .i64 (d.pos:Int),.slice a2 d.nm.length k2,.slice a3 d.cl.length k3,.bool d.clash]:=y3.store 3 _
 have n4:=ownsRow_setCell_below (a:=⟨w.heap.size,3,none⟩) n3 (by show w.heap.size<w.heap.size+4;omega) (.slice a3 d.cl.length k3)
 have l4:=ownsRow_setCell_below (a:=⟨w.heap.size,3,none⟩) l3 (by show w.heap.size<w.heap.size+4;omega) (.slice a3 d.cl.length k3)
 have b4:=Below.setCell b3 (p:=⟨w.heap.size,3,none⟩) (by show w.heap.size≤w.heap.size;omega) (.slice a3 d.cl.length k3)
 have y5:Row (((((w7.setCell ⟨w.heap.size,0,none⟩ (.string d.tb)).setCell ⟨w.heap.size,1,none⟩ (.int .i64 (d.pos:Int))).setCell ⟨w.heap.size,2,none⟩ (.slice a2 d.nm.length k2)).setCell ⟨w.heap.size,3,none⟩ (.slice a3 d.cl.length k3)).setCell ⟨w.heap.size,4,none⟩ (.bool d.clash)) (w.heap.size) 32 #[.string d.tb,.int .i64 (d.pos:Int),.slice a2 d.nm.length k2,.slice a3 d.cl.length k3,.bool d.clash]:=y4.store 4 _
 have n5:=ownsRow_setCell_below (a:=⟨w.heap.size,4,none⟩) n4 (by show w.heap.size<w.heap.size+4;omega) (.bool d.clash)
 have l5:=ownsRow_setCell_below (a:=⟨w.heap.size,4,none⟩) l4 (by show w.heap.size<w.heap.size+4;omega) (.bool d.clash)
 have b5:=Below.setCell b4 (p:=⟨w.heap.size,4,none⟩) (by show w.heap.size≤w.heap.size;omega) (.bool d.clash)
 obtain⟨WG,hWG⟩:∃ WF,(((((w7.setCell ⟨w.heap.size,0,none⟩ (.string d.tb)).setCell ⟨w.heap.size,1,none⟩ (.int .i64 (d.pos:Int))).setCell ⟨w.heap.size,2,none⟩ (.slice a2 d.nm.length k2)).setCell ⟨w.heap.size,3,none⟩ (.slice a3 d.cl.length k3)).setCell ⟨w.heap.size,4,none⟩ (.bool d.clash))=WF:=⟨_,rfl⟩
 rw [hWG] at y5 n5 l5 b5
 have q8:Row WG (w.heap.size+1) 9 #[.string lb]:=by rw [← hWG];exact((((q7.other (a:=⟨w.heap.size,0,none⟩) (by simp) _).other (a:=⟨w.heap.size,1,none⟩) (by simp) _).other (a:=⟨w.heap.size,2,none⟩) (by simp) _).other (a:=⟨w.heap.size,3,none⟩) (by simp) _).other (a:=⟨w.heap.size,4,none⟩) (by simp) _
 have s8:Row WG (w.heap.size+1+1) 9 #[.string tx]:=by rw [← hWG];exact((((s7.other (a:=⟨w.heap.size,0,none⟩) (show w.heap.size+1+1≠w.heap.size by omega) _).other (a:=⟨w.heap.size,1,none⟩) (show w.heap.size+1+1≠w.heap.size by omega) _).other (a:=⟨w.heap.size,2,none⟩) (show w.heap.size+1+1≠w.heap.size by omega) _).other (a:=⟨w.heap.size,3,none⟩) (show w.heap.size+1+1≠w.heap.size by omega) _).other (a:=⟨w.heap.size,4,none⟩) (show w.heap.size+1+1≠w.heap.size by omega) _
 have r8:Row WG (w.heap.size+3) 32 #[.string ⟨#[]⟩,.int .i64 0,.slice none 0 0,.slice none 0 0,.bool false]:=by rw [← hWG];exact((((r7.other (a:=⟨w.heap.size,0,none⟩) (by simp) _).other (a:=⟨w.heap.size,1,none⟩) (by simp) _).other (a:=⟨w.heap.size,2,none⟩) (by simp) _).other (a:=⟨w.heap.size,3,none⟩) (by simp) _).other (a:=⟨w.heap.size,4,none⟩) (by simp) _
 have hth:kt≠w.heap.size:=by omega
 have t8:Row WG kt 23 #[.string d.tb,.int .i64 (pp:Int)]:=by rw [← hWG];exact((((t7.other (a:=⟨w.heap.size,0,none⟩) hth _).other (a:=⟨w.heap.size,1,none⟩) hth _).other (a:=⟨w.heap.size,2,none⟩) hth _).other (a:=⟨w.heap.size,3,none⟩) hth _).other (a:=⟨w.heap.size,4,none⟩) hth _
 have Hy8:=Lib.hid y5
 have Hn8:=Lib.hid n5
 have Hl8:=Lib.hid l5
 have Hb8:=Lib.hid b5
 have Hq8:=Lib.hid q8
 have Hs8:=Lib.hid s8
 have Hr8:=Lib.hid r8
 have Ht8:=Lib.hid t8
 clear y0 y1 y2 y3 y4 y5 n0 n1 n2 n3 n4 n5 l0 l1 l2 l3 l4 l5 b0 b1 b2 b3 b4 b5 q8 s8 r8 t8 p7 q7 s7 r7 t7 hn7 hc7 hb07 hn2 hc2 hb7 Hp6 Hq6 Hs6 Hr6 Ho6 Ht6 Hb6
 go_upto_region 13 with fail
 obtain⟨i0,hi,hz0',hz1',hz2'⟩:=info_parts (show(Tryz.prog.info? 136).map (fun i=>(i.zero,i.size,i.bytes))=some (some (.agg #[.string ⟨#[]⟩,.string ⟨#[]⟩,.string ⟨#[]⟩]),3,48) by kernel_rfl)
 have hG:w6.heap.size≤WG.heap.size:=by rw [← hWG];simpa [World.setCell] using hz7
 have g0:WG.cell? ⟨w.heap.size,0,none⟩=some (.string d.tb):=Hy8.out.cell 0
 have g3:WG.cell? ⟨w.heap.size,3,none⟩=some (.slice a3 d.cl.length k3):=Hy8.out.cell 3
 have gq:WG.cell? ⟨w.heap.size+1,0,none⟩=some (.string lb):=Hq8.out.cell 0
 have gx:WG.cell? ⟨w.heap.size+1+1,0,none⟩=some (.string tx):=Hs8.out.cell 0
 have u0:WG.cell? ⟨kt,0,none⟩=some (.string d.tb):=Ht8.out.cell 0
 have u1:WG.cell? ⟨kt,1,none⟩=some (.int .i64 (pp:Int)):=Ht8.out.cell 1
 have m1:w.heap.size<WG.heap.size:=Hy8.out.lt
 have m2:w.heap.size≠WG.heap.size:=by omega
 have m3:w.heap.size+1<WG.heap.size:=Hq8.out.lt
 have m4:w.heap.size+1≠WG.heap.size:=by omega
 have m8:w.heap.size+1+1<WG.heap.size:=Hs8.out.lt
 have m9:w.heap.size+1+1≠WG.heap.size:=by omega
 have m5:kt<WG.heap.size:=Ht8.out.lt
 have m7:w.heap.size+3<WG.heap.size:=Hr8.out.lt
 have m6:kt≠WG.heap.size:=by omega
 have hbA:Below WG.heap.size WG ((WG.drew).alloc (.cells #[.string lb,.string tx,.string S] 136)):=((Below.refl _ WG).drew).alloc (Nat.le_refl _) _
 have hnA:NmAt ((WG.drew).alloc (.cells #[.string lb,.string tx,.string S] 136)) (w.heap.size+4) (.slice a2 d.nm.length k2) d.nm:=owns_below Hn8.out hbA
 have hbase:w.heap.size+4≤((WG.drew).alloc (.cells #[.string lb,.string tx,.string S] 136)).heap.size:=by have:=hbA.size;omega
 have hcA:ClAt ((WG.drew).alloc (.cells #[.string lb,.string tx,.string S] 136)) (w.heap.size+4) (.slice a3 d.cl.length k3) d.cl:=owns_below Hl8.out hbA
 have hclne:∀ k,(Value.slice a2 d.nm.length k2).ownBlock=some k→(Value.slice a3 d.cl.length k3).ownBlock≠some k:=fun k hk h=>two_rows hcA hnA (by decide) h hk
 have hnews:∀ j u,[Value.string lb,Value.string tx,Value.string S][j]? =some u→((WG.drew).alloc (.cells #[.string lb,.string tx,.string S] 136)).cell? ((⟨WG.heap.size,0,none⟩:Addr).add j)=some u:=fun j u hu=>by
  have h1:Row ((WG.drew).alloc (.cells #[.string lb,.string tx,.string S] 136)) WG.heap.size 136 #[.string lb,.string tx,.string S]:=Row.new WG.drew _ _
  rw [Addr.add_lit,Nat.zero_add,h1.cell j]
  simpa using hu
 have hone:∀ u∈[Value.string lb,Value.string tx,Value.string S],u.oneCell'=true:=fun u hu=>by
  rcases List.mem_cons.1 hu with rfl | hu
  · rfl
  rcases List.mem_cons.1 hu with rfl | hu
  · rfl
  · rw [List.mem_singleton] at hu;subst hu;rfl
 go_cut [12] from 60 to 70 (fun v wx=>v= .string S∧NewCl w w.heap.size d.tb pp d.clash d.nm (d.cl++[(lb,tx,S)]) wx)
 case first=>
  have hmix:Tryz.prog.follows .mixedOrders=true:=by kernel_rfl
  go_region_law (refine step_append_own rfl _ _ 30 rfl (w.heap.size+4) 136 i0 (.agg #[.string ⟨#[]⟩,.string ⟨#[]⟩,.string ⟨#[]⟩]) 3 48 Tryz.underlying30 hi hz0' hz1' hz2' rfl (by decide) _ d.cl.length (Idl.clCells d.cl) rfl hcA ⟨WG.heap.size,0,none⟩ 1 1 [.string lb,.string tx,.string S] rfl rfl hnews hone (by unfold maxLen;omega) (by omega) hbase ?_
                 intro v' wa hown' hgr
                 obtain⟨b1,kk1,rfl⟩:=slice_of hown'
                 have hka:Keep (fun k=>k<w6.heap.size) WG wa:=(Keep.below hbA).trans ((keep_grown hgr).mono fun k (hk:k<w6.heap.size) _ h=>by have:=hwb k h;omega)
                 have ya:=Hy8.out.keep hka (by omega)
                 have ra:=Hr8.out.keep hka (by omega)
                 have ta:=Ht8.out.keep hka hkt6
                 have e0:wa.cell? ⟨w.heap.size,0,none⟩=some (.string d.tb):=ya.cell 0
                 have e1:wa.cell? ⟨w.heap.size,1,none⟩=some (.int .i64 (d.pos:Int)):=ya.cell 1
                 have e3:wa.cell? ⟨w.heap.size,3,none⟩=some (.slice a3 d.cl.length k3):=ya.cell 3
                 have ef0:=ya.frozen 0
                 have ef1:=ya.frozen 1
                 have ef3:=ya.frozen 3
                 have eu0:wa.cell? ⟨kt,0,none⟩=some (.string d.tb):=ta.cell 0
                 have eu1:wa.cell? ⟨kt,1,none⟩=some (.int .i64 (pp:Int)):=ta.cell 1)
  all_goals
   have hca:=owns_keep hnA (keep_grown hgr) hclne
   have hba:=Hb8.out.trans (keep_below (B:=w.heap.size) hka (fun k hk=>by omega) (by omega))
   have hend:=newCl_end (pp:=pp) ya ra hown' hca hba
   clear hca hba ya ra ta hka hgr hown'
   go_wp2
   go_meet
   exact⟨rfl,hend⟩
 case rest=>
  obtain⟨rfl,nv',cv',hp',hr',hn',hc',hb'⟩:=hcut
  obtain⟨b1,kk1,rfl⟩:=slice_of hn'
  obtain⟨b2,kk2,hv1⟩:=slice_of hc'
  rw [show (d.cl++[(lb,tx,S)]).length=d.cl.length+1 by simp] at hv1
  subst hv1
  have Hp':=Lib.hid hp'
  have Hr':=Lib.hid hr'
  have Hn':=Lib.hid hn'
  have Hc':=Lib.hid hc'
  have Hb':=Lib.hid hb'
  have c0:=hp'.cell 0
  change World.cell? _ _=some _ at c0
  have c1:=hp'.cell 1
  change World.cell? _ _=some _ at c1
  have c2:=hp'.cell 2
  change World.cell? _ _=some _ at c2
  have c3:=hp'.cell 3
  change World.cell? _ _=some _ at c3
  have c4:=hp'.cell 4
  change World.cell? _ _=some _ at c4
  clear g0 g3 gq gx u0 u1 m1 m2 m3 m4 m5 m6 m7 m8 m9 hbA hnA hcA hclne hnews hone hp' hr' hn' hc' hb' Hy8 Hn8 Hl8 Hb8 Hq8 Hs8 Hr8 Ht8 hG hWG hvb hwb hi hz0' hz1' hz2'
  go_wp2_with fail
  refine(Hcln.out _ _ _ _ _ _ (ownsRow_weak Hn'.out (Nat.zero_le _)) (ownsRow_weak Hc'.out (Nat.zero_le _))).mono ?_
  rintro e w9 ⟨rfl,hb9⟩
  have p9:=Hp'.out.below hb9 Hp'.out.lt
  have r9:=Hr'.out.below hb9 Hr'.out.lt
  have hn9:=owns_below Hn'.out hb9
  have hc9:=owns_below Hc'.out hb9
  have hb09:=Hb'.out.trans (hb9.mono Hb'.out.size)
  clear c0 c1 c2 c3 c4 hb9 Hp' Hr' Hn' Hc' Hb'
  have c0:w9.cell? ⟨w.heap.size,0,none⟩=some (.string d.tb):=p9.cell 0
  have c1:w9.cell? ⟨w.heap.size,1,none⟩=some (.int .i64 (pp:Int)):=p9.cell 1
  have c2:w9.cell? ⟨w.heap.size,2,none⟩=some (.slice b1 d.nm.length kk1):=p9.cell 2
  have c3:w9.cell? ⟨w.heap.size,3,none⟩=some (.slice b2 (d.cl.length+1) kk2):=p9.cell 3
  have c4:w9.cell? ⟨w.heap.size,4,none⟩=some (.bool d.clash):=p9.cell 4
  have f4:=p9.frozen 4
  obtain⟨w10,hw10⟩:∃ w10,w9.setCell ⟨w.heap.size,4,none⟩ (.bool ncl)=w10:=⟨_,rfl⟩
  have p10:Row w10 w.heap.size 32 #[.string d.tb,.int .i64 (pp:Int),.slice b1 d.nm.length kk1,.slice b2 (d.cl.length+1) kk2,.bool ncl]:=by rw [← hw10];exact p9.store 4 _
  have r10:Row w10 (w.heap.size+1+1+1) 32 #[.string ⟨#[]⟩,.int .i64 0,.slice none 0 0,.slice none 0 0,.bool false]:=by rw [← hw10];exact r9.other (a:=⟨w.heap.size,4,none⟩) (by simp) _
  have hn10:=ownsRow_setCell_below (a:=⟨w.heap.size,4,none⟩) hn9 (by show w.heap.size<w.heap.size+4;omega) (.bool ncl)
  have hc10:=ownsRow_setCell_below (a:=⟨w.heap.size,4,none⟩) hc9 (by show w.heap.size<w.heap.size+4;omega) (.bool ncl)
  have hb10:=hb09.setCell (p:=⟨w.heap.size,4,none⟩) (Nat.le_refl _) (.bool ncl)
  rw [hw10] at hn10 hc10 hb10
  clear p9 r9 hn9 hc9 hb09
  go_wp2
  clear c0 c1 c2 c3 c4 f4 hw10
  have c0:w10.cell? ⟨w.heap.size,0,none⟩=some (.string d.tb):=p10.cell 0
  have c1:w10.cell? ⟨w.heap.size,1,none⟩=some (.int .i64 (pp:Int)):=p10.cell 1
  have c2:w10.cell? ⟨w.heap.size,2,none⟩=some (.slice b1 d.nm.length kk1):=p10.cell 2
  have c3:w10.cell? ⟨w.heap.size,3,none⟩=some (.slice b2 (d.cl.length+1) kk2):=p10.cell 3
  have c4:w10.cell? ⟨w.heap.size,4,none⟩=some (.bool ncl):=p10.cell 4
  have g0:w10.cell? ⟨w.heap.size+1+1+1,0,none⟩=some (.string ⟨#[]⟩):=r10.cell 0
  have g1:w10.cell? ⟨w.heap.size+1+1+1,1,none⟩=some (.int .i64 0):=r10.cell 1
  have g2:w10.cell? ⟨w.heap.size+1+1+1,2,none⟩=some (.slice none 0 0):=r10.cell 2
  have g3:w10.cell? ⟨w.heap.size+1+1+1,3,none⟩=some (.slice none 0 0):=r10.cell 3
  have g4:w10.cell? ⟨w.heap.size+1+1+1,4,none⟩=some (.bool false):=r10.cell 4
  have e0f:=r10.frozen 0
  have e1f:=r10.frozen 1
  have e2f:=r10.frozen 2
  have e3f:=r10.frozen 3
  have e4f:=r10.frozen 4
  have Hr10:=Lib.hid r10
  have Hn10:=Lib.hid hn10
  have Hc10:=Lib.hid hc10
  have Hb10:=Lib.hid hb10
  clear p10 r10 hn10 hc10 hb10
  have y0:Row w10 (w.heap.size+1+1+1) 32 #[.string ⟨#[]⟩,.int .i64 0,.slice none 0 0,.slice none 0 0,.bool false]:=Hr10.out
  have n0:=Hn10.out
  have l0:=Hc10.out
  have bb0:=Hb10.out
  have y1:Row (w10.setCell ⟨w.heap.size+1+1+1,0,none⟩ (.string d.tb)) (w.heap.size+1+1+1) 32 #[.string d.tb,.int .i64 0,.slice none 0 0,.slice none 0 0,.bool false]:=y0.store 0 _
  have n1:=ownsRow_setCell_below (a:=⟨w.heap.size+1+1+1,0,none⟩) n0 (by show w.heap.size+1+1+1<w.heap.size+4;omega) (.string d.tb)
  have l1:=ownsRow_setCell_below (a:=⟨w.heap.size+1+1+1,0,none⟩) l0 (by show w.heap.size+1+1+1<w.heap.size+4;omega) (.string d.tb)
  have bb1:=Below.setCell bb0 (p:=⟨w.heap.size+1+1+1,0,none⟩) (by show w.heap.size≤w.heap.size+1+1+1;omega) (.string d.tb)
  have y2:Row ((w10.setCell ⟨w.heap.size+1+1+1,0,none⟩ (.string d.tb)).setCell ⟨w.heap.size+1+1+1,1,none⟩ (.int .i64 (pp:Int))) (w.heap.size+1+1+1) 32 #[.string d.tb,.int .i64 (pp:Int),.slice none 0 0,.slice none 0 0,.bool false]:=y1.store 1 _
  have n2:=ownsRow_setCell_below (a:=⟨w.heap.size+1+1+1,1,none⟩) n1 (by show w.heap.size+1+1+1<w.heap.size+4;omega) (.int .i64 (pp:Int))
  have l2:=ownsRow_setCell_below (a:=⟨w.heap.size+1+1+1,1,none⟩) l1 (by show w.heap.size+1+1+1<w.heap.size+4;omega) (.int .i64 (pp:Int))
  have bb2:=Below.setCell bb1 (p:=⟨w.heap.size+1+1+1,1,none⟩) (by show w.heap.size≤w.heap.size+1+1+1;omega) (.int .i64 (pp:Int))
  have y3:Row (((w10.setCell ⟨w.heap.size+1+1+1,0,none⟩ (.string d.tb)).setCell ⟨w.heap.size+1+1+1,1,none⟩ (.int .i64 (pp:Int))).setCell ⟨w.heap.size+1+1+1,2,none⟩ (.slice b1 d.nm.length kk1)) (w.heap.size+1+1+1) 32 #[.string d.tb,.int .i64 (pp:Int),.slice b1 d.nm.length kk1,.slice none 0 0,.bool false]:=y2.store 2 _
  have n3:=ownsRow_setCell_below (a:=⟨w.heap.size+1+1+1,2,none⟩) n2 (by show w.heap.size+1+1+1<w.heap.size+4;omega) (.slice b1 d.nm.length kk1)
  have l3:=ownsRow_setCell_below (a:=⟨w.heap.size+1+1+1,2,none⟩) l2 (by show w.heap.size+1+1+1<w.heap.size+4;omega) (.slice b1 d.nm.length kk1)
  have b3:=Below.setCell bb2 (p:=⟨w.heap.size+1+1+1,2,none⟩) (by show w.heap.size≤w.heap.size+1+1+1;omega) (.slice b1 d.nm.length kk1)
  have y4:Row ((((w10.setCell ⟨w.heap.size+1+1+1,0,none⟩ (.string d.tb)).setCell ⟨w.heap.size+1+1+1,1,none⟩ (.int .i64 (pp:Int))).setCell ⟨w.heap.size+1+1+1,2,none⟩ (.slice b1 d.nm.length kk1)).setCell ⟨w.heap.size+1+1+1,3,none⟩ (.slice b2 (d.cl.length+1) kk2)) (w.heap.size+1+1+1) 32 #[.string d.tb,.int .i64 (pp:Int),.slice b1 d.nm.length kk1,.slice b2 (d.cl.length+1) kk2,.bool false]:=y3.store 3 _
  have n4:=ownsRow_setCell_below (a:=⟨w.heap.size+1+1+1,3,none⟩) n3 (by show w.heap.size+1+1+1<w.heap.size+4;omega) (.slice b2 (d.cl.length+1) kk2)
  have l4:=ownsRow_setCell_below (a:=⟨w.heap.size+1+1+1,3,none⟩) l3 (by show w.heap.size+1+1+1<w.heap.size+4;omega) (.slice b2 (d.cl.length+1) kk2)
  have b4:=Below.setCell b3 (p:=⟨w.heap.size+1+1+1,3,none⟩) (by show w.heap.size≤w.heap.size+1+1+1;omega) (.slice b2 (d.cl.length+1) kk2)
  have y5:Row (((((w10.setCell ⟨w.heap.size+1+1+1,0,none⟩ (.string d.tb)).setCell ⟨w.heap.size+1+1+1,1,none⟩ (.int .i64 (pp:Int))).setCell ⟨w.heap.size+1+1+1,2,none⟩ (.slice b1 d.nm.length kk1)).setCell ⟨w.heap.size+1+1+1,3,none⟩ (.slice b2 (d.cl.length+1) kk2)).setCell ⟨w.heap.size+1+1+1,4,none⟩ (.bool ncl)) (w.heap.size+1+1+1) 32 #[.string d.tb,.int .i64 (pp:Int),.slice b1 d.nm.length kk1,.slice b2 (d.cl.length+1) kk2,.bool ncl]:=y4.store 4 _
  have n5:=ownsRow_setCell_below (a:=⟨w.heap.size+1+1+1,4,none⟩) n4 (by show w.heap.size+1+1+1<w.heap.size+4;omega) (.bool ncl)
  have l5:=ownsRow_setCell_below (a:=⟨w.heap.size+1+1+1,4,none⟩) l4 (by show w.heap.size+1+1+1<w.heap.size+4;omega) (.bool ncl)
  have b5:=Below.setCell b4 (p:=⟨w.heap.size+1+1+1,4,none⟩) (by show w.heap.size≤w.heap.size+1+1+1;omega) (.bool ncl)
  obtain⟨WF,hWF⟩:∃ WF,(((((w10.setCell ⟨w.heap.size+1+1+1,0,none⟩ (.string d.tb)).setCell ⟨w.heap.size+1+1+1,1,none⟩ (.int .i64 (pp:Int))).setCell ⟨w.heap.size+1+1+1,2,none⟩ (.slice b1 d.nm.length kk1)).setCell ⟨w.heap.size+1+1+1,3,none⟩ (.slice b2 (d.cl.length+1) kk2)).setCell ⟨w.heap.size+1+1+1,4,none⟩ (.bool ncl))=WF:=⟨_,rfl⟩
  rw [hWF] at y5 n5 l5 b5
  clear y0 y1 y2 y3 y4 n0 n1 n2 n3 n4 l0 l1 l2 l3 l4
  have Hy:=Lib.hid y5
  have Hn:=Lib.hid n5
  have Hl:=Lib.hid l5
  have Hbf:=Lib.hid b5
  clear y5 n5 l5 b5 Hr10 Hn10 Hc10 Hb10
  go_region
  all_goals
   go_wp2
   refine bodyPost_ret (results_tct _ _ (g:=w.heap.size+1+1+1) (t:=32) rfl rfl Hy.out.drew Tryz.underlying32 rfl (by kernel_rfl)) rfl ⟨_,_,rfl,?_,?_,?_⟩
   · exact ownsRow_weak (W:=WF.drew) Hn.out (by omega)
   · exact ownsRow_weak (W:=WF.drew) Hl.out (by omega)
   · exact Hbf.out.drew
theorem idealOpen_any (d:Idl) (hg:d.Good) (nv cv:Value) (lb c:ByteArray) (w:World) (hN:NmAt w 0 nv d.nm) (hC:ClAt w 0 cv d.cl):
 Calls Tryz.prog 315 #[.agg (Idl.vals d.tb d.pos nv cv d.clash),.string lb,.string c] w fun e w'=>e= .returned (.tuple #[.string (d.opens lb c).1,.int .i64 (d.opens lb c).2])∧Below w.heap.size w w':=by
 have hRi:=fun w1 (hb:Below w.heap.size w w1)=>idealRight_any d hg nv cv w1 (owns_below hN hb) (owns_below hC hb)
 have hFi:=fun w1 (hb:Below w.heap.size w w1) (hr:Row w1 (w.heap.size+1) 9 #[.string lb]) (hr2:Row w1 (w.heap.size+1+1) 9 #[.string c])=>findCl_any d.cl cv (fun x=>decide (x.1=lb∧x.2.2=c)) 316 #[.pointer (some ⟨w.heap.size+1,0,none⟩),.pointer (some ⟨w.heap.size+1+1,0,none⟩)] enters_open w1 (owns_below hC hb)
  (open_pred lb c (w.heap.size+1) (w.heap.size+1+1) _ (hr.alloc _).lt (hr2.alloc _).lt ((hr.alloc _).cell 0) ((hr2.alloc _).cell 0))
 have hmf:∀(fn:Fn) (first cap:Array Value) (w:World),(Instr.makeFunc fn first cap).run Tryz.prog w= .ok (.func fn first cap) w:=fun _ _ _ _=>rfl
 obtain⟨na,nk,rfl⟩:=slice_of hN
 obtain⟨ca,ck,rfl⟩:=slice_of hC
 unfold Idl.vals at*
 obtain⟨p0,q0,r0,hb0,hz0⟩:=box3 w #[.string d.tb,.int .i64 (d.pos:Int),.slice na d.nm.length nk,.slice ca d.cl.length ck,.bool d.clash] #[.string lb] #[.string c] 32 9 9
 have HRi:=Lib.hid hRi
 have HFi:=Lib.hid hFi
 clear hRi hFi hN hC
 go_enter Tryz.func315,Tryz.ntmps315
 go_wp2_with fail
 refine(HRi.out _ hb0).mono ?_
 rintro e w1 ⟨rfl,hb1⟩
 have p1:=p0.below hb1 p0.lt
 have q1:=q0.below hb1 q0.lt
 have r1:=r0.below hb1 r0.lt
 have hbx:Below w.heap.size w w1:=hb0.trans (hb1.mono hb0.size)
 have c0:w1.cell? ⟨w.heap.size,0,none⟩=some (.string d.tb):=p1.cell 0
 have c3:w1.cell? ⟨w.heap.size,3,none⟩=some (.slice ca d.cl.length ck):=p1.cell 3
 have Hq1:=Lib.hid q1
 have Hr1:=Lib.hid r1
 have Hbx:=Lib.hid hbx
 clear p0 q0 r0 hb0 hb1 p1 q1 r1 hbx
 go_wp2_with fail
 refine(HFi.out _ Hbx.out Hq1.out Hr1.out).mono ?_
 rintro e w2 ⟨hcase,hb2⟩
 have Hb2:=Lib.hid (Hbx.out.trans (hb2.mono Hbx.out.size))
 clear hb2 Hbx Hq1 Hr1 c0 c3
 rcases hcase with ⟨hf,rfl⟩ | ⟨x,hf,rfl⟩
 · go_wp2
   go_ret2
   refine⟨?_,Hb2.out.alloc Hb2.out.size _⟩
   unfold Idl.opens
   rw [hf]
   rfl
 · go_wp2
   go_ret2
   refine⟨?_,Hb2.out.alloc Hb2.out.size _⟩
   unfold Idl.opens
   rw [hf]
   rfl
end Go.Proofs.YtpnbkfboneabaaaGreat
