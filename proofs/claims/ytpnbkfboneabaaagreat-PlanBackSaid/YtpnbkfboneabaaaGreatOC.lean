import Derived.Test.YtpnbkfboneabaaaGreatOB
set_option maxRecDepth 100000
set_option maxHeartbeats 4000000
namespace Go.Proofs.YtpnbkfboneabaaaGreat
open Go.RowKit
theorem meth_keyed_label (x:Value) (w:World):(method 393 174 x "columbarium/oracle.label").run Tryz.prog w= .ok (193,x) w:=by kernel_rfl
theorem meth_keyed_cell (x:Value) (w:World):(method 393 174 x "columbarium/oracle.cell").run Tryz.prog w= .ok (191,x) w:=by kernel_rfl
theorem meth_keyed_open (x:Value) (w:World):(method 393 174 x "columbarium/oracle.open").run Tryz.prog w= .ok (194,x) w:=by kernel_rfl
theorem meth_drawn_label (x:Value) (w:World):(method 393 175 x "columbarium/oracle.label").run Tryz.prog w= .ok (313,x) w:=by kernel_rfl
theorem meth_drawn_cell (x:Value) (w:World):(method 393 175 x "columbarium/oracle.cell").run Tryz.prog w= .ok (312,x) w:=by kernel_rfl
theorem meth_drawn_open (x:Value) (w:World):(method 393 175 x "columbarium/oracle.open").run Tryz.prog w= .ok (314,x) w:=by kernel_rfl
theorem asked_size (word:ByteArray) (e c:Nat):(asked word e c).size=word.size+9:=by
 unfold asked
 rw [strOf_size,askB_length]
theorem oracleLabel_real [Sha.Words] (o:Orc) (hg:o.Good) (hm:o.m=1) (nv cv:Value) (word:ByteArray) (e c:Nat) (hw:word.size≤20) (he:e≤1000000) (hc:c≤1000000) (hl:o.d.nm.length≠2000)
 (hok:(o.wayL (asked word e c)).2.2=0) (w:World) (hR:Sha.RoundIn w) (hN:NmAt w 0 nv o.d.nm) (hC:ClAt w 0 cv o.d.cl):
 Calls Tryz.prog 78 #[.agg (Orc.vals 1 o.key o.d.tb o.d.pos nv cv o.d.clash),.string word,.int .i64 (e:Int),.int .i64 (c:Int)] w fun x w'=>∃ nv' cv',x= .returned (.tuple #[.string (o.wayL (asked word e c)).1,.agg (Orc.vals 1 o.key (o.wayL (asked word e c)).2.1.tb (o.wayL (asked word e c)).2.1.pos nv' cv' (o.wayL (asked word e c)).2.1.clash),.int .i64 0])∧NmAt w' w.heap.size nv' (o.wayL (asked word e c)).2.1.nm∧ClAt w' w.heap.size cv' (o.wayL (asked word e c)).2.1.cl∧Below w.heap.size w w':=by
 have hA:=fun w1=>Ask_ok word e c hw he hc w1
 have hRt:=fun w1 (hb:Below w.heap.size w w1)=>oracleRight_any 1 (.inl rfl) o.key hg.key o.d hg.d nv cv w1 (owns_below hN hb) (owns_below hC hb)
 have hWy:=fun w1=>way_real o.key o.d.tb o.d.pos nv cv o.d.clash w1
 have hK:=fun w1 (hb:Below w.heap.size w w1)=>keyedL_any o hg hm nv cv (asked word e c) (by rw [asked_size];omega) hl w1 (hR.below hb) (owns_below hN hb) (owns_below hC hb)
 have hD:(o.wayL (asked word e c)).2.1.Good:=Orc.wayL_good hg (q:=asked word e c) (by rw [asked_size];omega) hl
 obtain⟨na,nk,rfl⟩:=slice_of hN
 obtain⟨ca,ck,rfl⟩:=slice_of hC
 generalize o.wayL (asked word e c)=R at*
 generalize asked word e c=q at*
 obtain⟨m,key,d⟩:=o
 obtain⟨s,D,z⟩:=R
 dsimp only at*
 subst hm
 subst hok
 have hT:=fun a1 k1 a2 k2 W (h1:NmAt W 0 (.slice a1 D.nm.length k1) D.nm) (h2:ClAt W 0 (.slice a2 D.cl.length k2) D.cl)=>told_ok 1 key d.tb d.pos (.slice na d.nm.length nk) (.slice ca d.cl.length ck) d.clash s D.tb D.pos (.slice a1 D.nm.length k1) (.slice a2 D.cl.length k2) D.clash D (Nat.le_trans hD.nms (by decide)) (Nat.le_trans hD.cls (by decide)) W h1 h2
 have HN:=Lib.hid hN
 have HC:=Lib.hid hC
 clear hg hl hD hN hC hw he hc
 unfold WayIs Orc.vals Idl.vals at*
 obtain⟨p0,q0,hb0,hz0⟩:=box2 w #[.int .i64 1,.string key,.string d.tb,.int .i64 (d.pos:Int),.slice na d.nm.length nk,.slice ca d.cl.length ck,.bool d.clash] #[.int .i64 0,.string ⟨#[]⟩,.string ⟨#[]⟩,.int .i64 0,.slice none 0 0,.slice none 0 0,.bool false] 34 34
 have HA:=Lib.hid hA
 have HRt:=Lib.hid hRt
 have HWy:=Lib.hid hWy
 have HK:=Lib.hid hK
 have HT:=Lib.hid hT
 clear hRt hWy hK hT hA hR
 have hme:=meth_keyed_label
 go_enter Tryz.func78,Tryz.ntmps78
 go_wp2_with fail
 refine(HA.out _).mono ?_
 rintro x w1 ⟨rfl,hb1⟩
 have hb01:Below w.heap.size w w1:=hb0.trans (hb1.mono hb0.size)
 have Hp1:=Lib.hid (p0.below hb1 p0.lt)
 have Hq1:=Lib.hid (q0.below hb1 q0.lt)
 clear p0 q0 hb0 hb1 hz0
 have c0:w1.cell? ⟨w.heap.size,0,none⟩=some (.int .i64 1):=Hp1.out.cell 0
 have c1:w1.cell? ⟨w.heap.size,1,none⟩=some (.string key):=Hp1.out.cell 1
 have c2:w1.cell? ⟨w.heap.size,2,none⟩=some (.string d.tb):=Hp1.out.cell 2
 have c3:w1.cell? ⟨w.heap.size,3,none⟩=some (.int .i64 (d.pos:Int)):=Hp1.out.cell 3
 have c4:w1.cell? ⟨w.heap.size,4,none⟩=some (.slice na d.nm.length nk):=Hp1.out.cell 4
 have c5:w1.cell? ⟨w.heap.size,5,none⟩=some (.slice ca d.cl.length ck):=Hp1.out.cell 5
 have c6:w1.cell? ⟨w.heap.size,6,none⟩=some (.bool d.clash):=Hp1.out.cell 6
 go_wp2_with fail
 refine(HRt.out _ hb01).mono ?_
 rintro x w2 ⟨rfl,hb2⟩
 have hb02:Below w.heap.size w w2:=hb01.trans (hb2.mono hb01.size)
 have Hp2:=Lib.hid (Hp1.out.below hb2 Hp1.out.lt)
 have Hq2:=Lib.hid (Hq1.out.below hb2 Hq1.out.lt)
 clear Hp1 Hq1 c0 c1 c2 c3 c4 c5 c6 hb01 hb2 HRt
 have c0:w2.cell? ⟨w.heap.size,0,none⟩=some (.int .i64 1):=Hp2.out.cell 0
 have c1:w2.cell? ⟨w.heap.size,1,none⟩=some (.string key):=Hp2.out.cell 1
 have c2:w2.cell? ⟨w.heap.size,2,none⟩=some (.string d.tb):=Hp2.out.cell 2
 have c3:w2.cell? ⟨w.heap.size,3,none⟩=some (.int .i64 (d.pos:Int)):=Hp2.out.cell 3
 have c4:w2.cell? ⟨w.heap.size,4,none⟩=some (.slice na d.nm.length nk):=Hp2.out.cell 4
 have c5:w2.cell? ⟨w.heap.size,5,none⟩=some (.slice ca d.cl.length ck):=Hp2.out.cell 5
 have c6:w2.cell? ⟨w.heap.size,6,none⟩=some (.bool d.clash):=Hp2.out.cell 6
 go_wp2_with fail
 refine(HWy.out _).mono ?_
 rintro x w3 ⟨rfl,hb3⟩
 have hb03:Below w.heap.size w w3:=hb02.trans (hb3.mono hb02.size)
 have Hp3:=Lib.hid (Hp2.out.below hb3 Hp2.out.lt)
 have Hq3:=Lib.hid (Hq2.out.below hb3 Hq2.out.lt)
 clear Hp2 Hq2 c0 c1 c2 c3 c4 c5 c6 hb02 hb3 HWy
 go_wp2_with fail
 refine(HK.out _ hb03).mono ?_
 rintro x w4 ⟨nv',cv',rfl,hn4,hc4,hb4⟩
 obtain⟨a1,k1,rfl⟩:=slice_of hn4
 obtain⟨a2,k2,rfl⟩:=slice_of hc4
 have hb04:Below w.heap.size w w4:=hb03.trans (hb4.mono hb03.size)
 have hba:Below w4.heap.size w4 (w4.alloc (.cells #[.string D.tb,.int .i64 (D.pos:Int),.slice a1 D.nm.length k1,.slice a2 D.cl.length k2,.bool D.clash] 32)):=(Below.refl _ w4).alloc (Nat.le_refl _) _
 have g5:Row (w4.alloc (.cells #[.string D.tb,.int .i64 (D.pos:Int),.slice a1 D.nm.length k1,.slice a2 D.cl.length k2,.bool D.clash] 32)) w4.heap.size 32 #[.string D.tb,.int .i64 (D.pos:Int),.slice a1 D.nm.length k1,.slice a2 D.cl.length k2,.bool D.clash]:=Row.new w4 _ _
 have p5:=(Hp3.out.below hb4 Hp3.out.lt).alloc (.cells #[.string D.tb,.int .i64 (D.pos:Int),.slice a1 D.nm.length k1,.slice a2 D.cl.length k2,.bool D.clash] 32)
 have q5:=(Hq3.out.below hb4 Hq3.out.lt).alloc (.cells #[.string D.tb,.int .i64 (D.pos:Int),.slice a1 D.nm.length k1,.slice a2 D.cl.length k2,.bool D.clash] 32)
 have hb05:=hb04.trans (hba.mono hb04.size)
 have hn5:=ownsRow_weak (owns_below hn4 hba) (Nat.zero_le _)
 have hc5:=ownsRow_weak (owns_below hc4 hba) (Nat.zero_le _)
 generalize hW5:w4.alloc (.cells #[.string D.tb,.int .i64 (D.pos:Int),.slice a1 D.nm.length k1,.slice a2 D.cl.length k2,.bool D.clash] 32)=W5 at*
 have HT5:=Lib.hid (HT.out a1 k1 a2 k2 W5 hn5 hc5)
 have c0:W5.cell? ⟨w.heap.size,0,none⟩=some (.int .i64 1):=p5.cell 0
 have c1:W5.cell? ⟨w.heap.size,1,none⟩=some (.string key):=p5.cell 1
 have c2:W5.cell? ⟨w.heap.size,2,none⟩=some (.string d.tb):=p5.cell 2
 have c3:W5.cell? ⟨w.heap.size,3,none⟩=some (.int .i64 (d.pos:Int)):=p5.cell 3
 have c4:W5.cell? ⟨w.heap.size,4,none⟩=some (.slice na d.nm.length nk):=p5.cell 4
 have c5:W5.cell? ⟨w.heap.size,5,none⟩=some (.slice ca d.cl.length ck):=p5.cell 5
 have c6:W5.cell? ⟨w.heap.size,6,none⟩=some (.bool d.clash):=p5.cell 6
 have e0:W5.cell? ⟨w4.heap.size,0,none⟩=some (.string D.tb):=g5.cell 0
 have e1:W5.cell? ⟨w4.heap.size,1,none⟩=some (.int .i64 (D.pos:Int)):=g5.cell 1
 have e2:W5.cell? ⟨w4.heap.size,2,none⟩=some (.slice a1 D.nm.length k1):=g5.cell 2
 have e3:W5.cell? ⟨w4.heap.size,3,none⟩=some (.slice a2 D.cl.length k2):=g5.cell 3
 have e4:W5.cell? ⟨w4.heap.size,4,none⟩=some (.bool D.clash):=g5.cell 4
 have Hq5:=Lib.hid q5
 have Hb5:=Lib.hid hb05
 clear p5 q5 g5 hba hb05 hn5 hc5 hn4 hc4 hb03 hb04 hb4 Hp3 Hq3 HK HT HN HC
 go_wp2_with fail
 refine HT5.out.mono ?_
 rintro x w6 ⟨nv2,cv2,rfl,hn6,hc6,hb6⟩
 obtain⟨a3,k3,rfl⟩:=slice_of hn6
 obtain⟨a4,k4,rfl⟩:=slice_of hc6
 have q6:=Hq5.out.below hb6 Hq5.out.lt
 have hb06:Below w.heap.size w w6:=Hb5.out.trans (hb6.mono Hb5.out.size)
 have hs5:w.heap.size+2≤W5.heap.size:=by have:=Hq5.out.lt;omega
 have n6:=ownsRow_weak hn6 hs5
 have l6:=ownsRow_weak hc6 hs5
 clear hW5 e0 e1 e2 e3 e4 c0 c1 c2 c3 c4 c5 c6 hn6 hc6 hb6 hs5 Hq5 Hb5 HT5
 have e0:w6.cell? ⟨w.heap.size+1,0,none⟩=some (.int .i64 0):=q6.cell 0
 have f0:=q6.frozen 0
 have e1:w6.cell? ⟨w.heap.size+1,1,none⟩=some (.string ⟨#[]⟩):=q6.cell 1
 have f1:=q6.frozen 1
 have e2:w6.cell? ⟨w.heap.size+1,2,none⟩=some (.string ⟨#[]⟩):=q6.cell 2
 have f2:=q6.frozen 2
 have e3:w6.cell? ⟨w.heap.size+1,3,none⟩=some (.int .i64 0):=q6.cell 3
 have f3:=q6.frozen 3
 have e4:w6.cell? ⟨w.heap.size+1,4,none⟩=some (.slice none 0 0):=q6.cell 4
 have f4:=q6.frozen 4
 have e5:w6.cell? ⟨w.heap.size+1,5,none⟩=some (.slice none 0 0):=q6.cell 5
 have f5:=q6.frozen 5
 have e6:w6.cell? ⟨w.heap.size+1,6,none⟩=some (.bool false):=q6.cell 6
 have f6:=q6.frozen 6
 have y0:Row w6 (w.heap.size+1) 34 #[.int .i64 0,.string ⟨#[]⟩,.string ⟨#[]⟩,.int .i64 0,.slice none 0 0,.slice none 0 0,.bool false]:=q6
 have n0:=n6
 have l0:=l6
 have b0:=hb06
 have y1:Row (w6.setCell ⟨w.heap.size+1,0,none⟩ (.int .i64 1)) (w.heap.size+1) 34 #[.int .i64 1,.string ⟨#[]⟩,.string ⟨#[]⟩,.int .i64 0,.slice none 0 0,.slice none 0 0,.bool false]:=y0.store 0 _
 have n1:=ownsRow_setCell_below (a:=⟨w.heap.size+1,0,none⟩) n0 (by show w.heap.size+1<w.heap.size+2;omega) (.int .i64 1)
 have l1:=ownsRow_setCell_below (a:=⟨w.heap.size+1,0,none⟩) l0 (by show w.heap.size+1<w.heap.size+2;omega) (.int .i64 1)
 have b1:=Below.setCell b0 (p:=⟨w.heap.size+1,0,none⟩) (by show w.heap.size≤w.heap.size+1;omega) (.int .i64 1)
 have y2:Row ((w6.setCell ⟨w.heap.size+1,0,none⟩ (.int .i64 1)).setCell ⟨w.heap.size+1,1,none⟩ (.string key)) (w.heap.size+1) 34 #[.int .i64 1,.string key,.string ⟨#[]⟩,.int .i64 0,.slice none 0 0,.slice none 0 0,.bool false]:=y1.store 1 _
 have n2:=ownsRow_setCell_below (a:=⟨w.heap.size+1,1,none⟩) n1 (by show w.heap.size+1<w.heap.size+2;omega) (.string key)
 have l2:=ownsRow_setCell_below (a:=⟨w.heap.size+1,1,none⟩) l1 (by show w.heap.size+1<w.heap.size+2;omega) (.string key)
 have b2:=Below.setCell b1 (p:=⟨w.heap.size+1,1,none⟩) (by show w.heap.size≤w.heap.size+1;omega) (.string key)
 have y3:Row (((w6.setCell ⟨w.heap.size+1,0,none⟩ (.int .i64 1)).setCell ⟨w.heap.size+1,1,none⟩ (.string key)).setCell ⟨w.heap.size+1,2,none⟩ (.string D.tb)) (w.heap.size+1) 34 #[.int .i64 1,.string key,.string D.tb,.int .i64 0,.slice none 0 0,.slice none 0 0,.bool false]:=y2.store 2 _
 have n3:=ownsRow_setCell_below (a:=⟨w.heap.size+1,2,none⟩) n2 (by show w.heap.size+1<w.heap.size+2;omega) (.string D.tb)
 have l3:=ownsRow_setCell_below (a:=⟨w.heap.size+1,2,none⟩) l2 (by show w.heap.size+1<w.heap.size+2;omega) (.string D.tb)
 have b3:=Below.setCell b2 (p:=⟨w.heap.size+1,2,none⟩) (by show w.heap.size≤w.heap.size+1;omega) (.string D.tb)
 have y4:Row ((((w6.setCell ⟨w.heap.size+1,0,none⟩ (.int .i64 1)).setCell ⟨w.heap.size+1,1,none⟩ (.string key)).setCell ⟨w.heap.size+1,2,none⟩ (.string D.tb)).setCell ⟨w.heap.size+1,3,none⟩ (.int .i64 (D.pos:Int))) (w.heap.size+1) 34 #[.int .i64 1,.string key,.string D.tb,.int .i64 (D.pos:Int),.slice none 0 0,.slice none 0 0,.bool false]:=y3.store 3 _
 have n4:=ownsRow_setCell_below (a:=⟨w.heap.size+1,3,none⟩) n3 (by show w.heap.size+1<w.heap.size+2;omega) (.int .i64 (D.pos:Int))
 have l4:=ownsRow_setCell_below (a:=⟨w.heap.size+1,3,none⟩) l3 (by show w.heap.size+1<w.heap.size+2;omega) (.int .i64 (D.pos:Int))
 have b4:=Below.setCell b3 (p:=⟨w.heap.size+1,3,none⟩) (by show w.heap.size≤w.heap.size+1;omega) (.int .i64 (D.pos:Int))
 have y5:Row (((((w6.setCell ⟨w.heap.size+1,0,none⟩ (.int .i64 1)).setCell ⟨w.heap.size+1,1,none⟩ (.string key)).setCell ⟨w.heap.size+1,2,none⟩ (.string D.tb)).setCell ⟨w.heap.size+1,3,none⟩ (.int .i64 (D.pos:Int))).setCell ⟨w.heap.size+1,4,none⟩ (.slice a3 D.nm.length k3)) (w.heap.size+1) 34 #[.int .i64 1,.string key,.string D.tb,.int .i64 (D.pos:Int),.slice a3 D.nm.length k3,.slice none 0 0,.bool false]:=y4.store 4 _
 have n5:=ownsRow_setCell_below (a:=⟨w.heap.size+1,4,none⟩) n4 (by show w.heap.size+1<w.heap.size+2;omega) (.slice a3 D.nm.length k3)
 have l5:=ownsRow_setCell_below (a:=⟨w.heap.size+1,4,none⟩) l4 (by show w.heap.size+1<w.heap.size+2;omega) (.slice a3 D.nm.length k3)
 have b5:=Below.setCell b4 (p:=⟨w.heap.size+1,4,none⟩) (by show w.heap.size≤w.heap.size+1;omega) (.slice a3 D.nm.length k3)
 have y6:Row ((((((w6.setCell ⟨w.heap.size+1,0,none⟩ (.int .i64 1)).setCell ⟨w.heap.size+1,1,none⟩ (.string key)).setCell ⟨w.heap.size+1,2,none⟩ (.string D.tb)).setCell ⟨w.heap.size+1,3,none⟩ (.int .i64 (D.pos:Int))).setCell ⟨w.heap.size+1,4,none⟩ (.slice a3 D.nm.length k3)).setCell ⟨w.heap.size+1,5,none⟩ (.slice a4 D.cl.length k4)) (w.heap.size+1) 34 #[.int .i64 1,.string key,.string D.tb,.int .i64 (D.pos:Int),.slice a3 D.nm.length k3,.slice a4 D.cl.length k4,.bool false]:=y5.store 5 _
 have n6:=ownsRow_setCell_below (a:=⟨w.heap.size+1,5,none⟩) n5 (by show w.heap.size+1<w.heap.size+2;omega) (.slice a4 D.cl.length k4)
 have l6:=ownsRow_setCell_below (a:=⟨w.heap.size+1,5,none⟩) l5 (by show w.heap.size+1<w.heap.size+2;omega) (.slice a4 D.cl.length k4)
 have b6:=Below.setCell b5 (p:=⟨w.heap.size+1,5,none⟩) (by show w.heap.size≤w.heap.size+1;omega) (.slice a4 D.cl.length k4)
 have y7:Row (((((((w6.setCell ⟨w.heap.size+1,0,none⟩ (.int .i64 1)).setCell ⟨w.heap.size+1,1,none⟩ (.string key)).setCell ⟨w.heap.size+1,2,none⟩ (.string D.tb)).setCell ⟨w.heap.size+1,3,none⟩ (.int .i64 (D.pos:Int))).setCell ⟨w.heap.size+1,4,none⟩ (.slice a3 D.nm.length k3)).setCell ⟨w.heap.size+1,5,none⟩ (.slice a4 D.cl.length k4)).setCell ⟨w.heap.size+1,6,none⟩ (.bool D.clash)) (w.heap.size+1) 34 #[.int .i64 1,.string key,.string D.tb,.int .i64 (D.pos:Int),.slice a3 D.nm.length k3,.slice a4 D.cl.length k4,.bool D.clash]:=y6.store 6 _
 have n7:=ownsRow_setCell_below (a:=⟨w.heap.size+1,6,none⟩) n6 (by show w.heap.size+1<w.heap.size+2;omega) (.bool D.clash)
 have l7:=ownsRow_setCell_below (a:=⟨w.heap.size+1,6,none⟩) l6 (by show w.heap.size+1<w.heap.size+2;omega) (.bool D.clash)
 have b7:=Below.setCell b6 (p:=⟨w.heap.size+1,6,none⟩) (by show w.heap.size≤w.heap.size+1;omega) (.bool D.clash)
 obtain⟨WF,hWF⟩:∃ WF,(((((((w6.setCell ⟨w.heap.size+1,0,none⟩ (.int .i64 1)).setCell ⟨w.heap.size+1,1,none⟩ (.string key)).setCell ⟨w.heap.size+1,2,none⟩ (.string D.tb)).setCell ⟨w.heap.size+1,3,none⟩ (.int .i64 (D.pos:Int))).setCell ⟨w.heap.size+1,4,none⟩ (.slice a3 D.nm.length k3)).setCell ⟨w.heap.size+1,5,none⟩ (.slice a4 D.cl.length k4)).setCell ⟨w.heap.size+1,6,none⟩ (.bool D.clash))=WF:=⟨_,rfl⟩
 rw [hWF] at y7 n7 l7 b7
 have Hy:=Lib.hid y7
 have Hn:=Lib.hid n7
 have Hl:=Lib.hid l7
 have Hbf:=Lib.hid b7
 clear y0 y1 y2 y3 y4 y5 y6 y7 n0 n1 n2 n3 n4 n5 n6 n7 l0 l1 l2 l3 l4 l5 l6 l7 b0 b1 b2 b3 b4 b5 b6 b7
 clear q6 n6 l6 hb06
 go_wp2
 all_goals
  refine bodyPost_ret (results_tct _ _ (g:=w.heap.size+1) (t:=34) rfl rfl Hy.out Tryz.underlying34 rfl (by kernel_rfl)) rfl ⟨_,_,rfl,?_,?_,?_⟩
  · exact ownsRow_weak (W:=WF) Hn.out (by omega)
  · exact ownsRow_weak (W:=WF) Hl.out (by omega)
  · exact Hbf.out
theorem oracleLabel_drawn [Sha.Words] (o:Orc) (hg:o.Good) (hm:o.m=2) (nv cv:Value) (word:ByteArray) (e c:Nat) (hw:word.size≤20) (he:e≤1000000) (hc:c≤1000000) (hl:o.d.nm.length≠2000)
 (hok:(o.wayL (asked word e c)).2.2=0) (w:World) (hN:NmAt w 0 nv o.d.nm) (hC:ClAt w 0 cv o.d.cl):
 Calls Tryz.prog 78 #[.agg (Orc.vals 2 o.key o.d.tb o.d.pos nv cv o.d.clash),.string word,.int .i64 (e:Int),.int .i64 (c:Int)] w fun x w'=>∃ nv' cv',x= .returned (.tuple #[.string (o.wayL (asked word e c)).1,.agg (Orc.vals 2 o.key (o.wayL (asked word e c)).2.1.tb (o.wayL (asked word e c)).2.1.pos nv' cv' (o.wayL (asked word e c)).2.1.clash),.int .i64 0])∧NmAt w' w.heap.size nv' (o.wayL (asked word e c)).2.1.nm∧ClAt w' w.heap.size cv' (o.wayL (asked word e c)).2.1.cl∧Below w.heap.size w w':=by
 have hA:=fun w1=>Ask_ok word e c hw he hc w1
 have hRt:=fun w1 (hb:Below w.heap.size w w1)=>oracleRight_any 2 (.inr rfl) o.key hg.key o.d hg.d nv cv w1 (owns_below hN hb) (owns_below hC hb)
 have hWy:=fun w1=>way_drawn o.key o.d.tb o.d.pos nv cv o.d.clash w1
 have hK:=fun w1 (hb:Below w.heap.size w w1)=>drawnL_any o hg hm nv cv (asked word e c) (by rw [asked_size];omega) hl w1 (owns_below hN hb) (owns_below hC hb)
 have hD:(o.wayL (asked word e c)).2.1.Good:=Orc.wayL_good hg (q:=asked word e c) (by rw [asked_size];omega) hl
 obtain⟨na,nk,rfl⟩:=slice_of hN
 obtain⟨ca,ck,rfl⟩:=slice_of hC
 generalize o.wayL (asked word e c)=R at*
 generalize asked word e c=q at*
 obtain⟨m,key,d⟩:=o
 obtain⟨s,D,z⟩:=R
 dsimp only at*
 subst hm
 subst hok
 have hT:=fun a1 k1 a2 k2 W (h1:NmAt W 0 (.slice a1 D.nm.length k1) D.nm) (h2:ClAt W 0 (.slice a2 D.cl.length k2) D.cl)=>told_ok 2 key d.tb d.pos (.slice na d.nm.length nk) (.slice ca d.cl.length ck) d.clash s D.tb D.pos (.slice a1 D.nm.length k1) (.slice a2 D.cl.length k2) D.clash D (Nat.le_trans hD.nms (by decide)) (Nat.le_trans hD.cls (by decide)) W h1 h2
 have HN:=Lib.hid hN
 have HC:=Lib.hid hC
 clear hg hl hD hN hC hw he hc
 unfold WayIs Orc.vals Idl.vals at*
 obtain⟨p0,q0,hb0,hz0⟩:=box2 w #[.int .i64 2,.string key,.string d.tb,.int .i64 (d.pos:Int),.slice na d.nm.length nk,.slice ca d.cl.length ck,.bool d.clash] #[.int .i64 0,.string ⟨#[]⟩,.string ⟨#[]⟩,.int .i64 0,.slice none 0 0,.slice none 0 0,.bool false] 34 34
 have HA:=Lib.hid hA
 have HRt:=Lib.hid hRt
 have HWy:=Lib.hid hWy
 have HK:=Lib.hid hK
 have HT:=Lib.hid hT
 clear hRt hWy hK hT hA
 have hme:=meth_drawn_label
 go_enter Tryz.func78,Tryz.ntmps78
 go_wp2_with fail
 refine(HA.out _).mono ?_
 rintro x w1 ⟨rfl,hb1⟩
 have hb01:Below w.heap.size w w1:=hb0.trans (hb1.mono hb0.size)
 have Hp1:=Lib.hid (p0.below hb1 p0.lt)
 have Hq1:=Lib.hid (q0.below hb1 q0.lt)
 clear p0 q0 hb0 hb1 hz0
 have c0:w1.cell? ⟨w.heap.size,0,none⟩=some (.int .i64 2):=Hp1.out.cell 0
 have c1:w1.cell? ⟨w.heap.size,1,none⟩=some (.string key):=Hp1.out.cell 1
 have c2:w1.cell? ⟨w.heap.size,2,none⟩=some (.string d.tb):=Hp1.out.cell 2
 have c3:w1.cell? ⟨w.heap.size,3,none⟩=some (.int .i64 (d.pos:Int)):=Hp1.out.cell 3
 have c4:w1.cell? ⟨w.heap.size,4,none⟩=some (.slice na d.nm.length nk):=Hp1.out.cell 4
 have c5:w1.cell? ⟨w.heap.size,5,none⟩=some (.slice ca d.cl.length ck):=Hp1.out.cell 5
 have c6:w1.cell? ⟨w.heap.size,6,none⟩=some (.bool d.clash):=Hp1.out.cell 6
 go_wp2_with fail
 refine(HRt.out _ hb01).mono ?_
 rintro x w2 ⟨rfl,hb2⟩
 have hb02:Below w.heap.size w w2:=hb01.trans (hb2.mono hb01.size)
 have Hp2:=Lib.hid (Hp1.out.below hb2 Hp1.out.lt)
 have Hq2:=Lib.hid (Hq1.out.below hb2 Hq1.out.lt)
 clear Hp1 Hq1 c0 c1 c2 c3 c4 c5 c6 hb01 hb2 HRt
 have c0:w2.cell? ⟨w.heap.size,0,none⟩=some (.int .i64 2):=Hp2.out.cell 0
 have c1:w2.cell? ⟨w.heap.size,1,none⟩=some (.string key):=Hp2.out.cell 1
 have c2:w2.cell? ⟨w.heap.size,2,none⟩=some (.string d.tb):=Hp2.out.cell 2
 have c3:w2.cell? ⟨w.heap.size,3,none⟩=some (.int .i64 (d.pos:Int)):=Hp2.out.cell 3
 have c4:w2.cell? ⟨w.heap.size,4,none⟩=some (.slice na d.nm.length nk):=Hp2.out.cell 4
 have c5:w2.cell? ⟨w.heap.size,5,none⟩=some (.slice ca d.cl.length ck):=Hp2.out.cell 5
 have c6:w2.cell? ⟨w.heap.size,6,none⟩=some (.bool d.clash):=Hp2.out.cell 6
 go_wp2_with fail
 refine(HWy.out _).mono ?_
 rintro x w3 ⟨rfl,hb3⟩
 have hb03:Below w.heap.size w w3:=hb02.trans (hb3.mono hb02.size)
 have Hp3:=Lib.hid (Hp2.out.below hb3 Hp2.out.lt)
 have Hq3:=Lib.hid (Hq2.out.below hb3 Hq2.out.lt)
 clear Hp2 Hq2 c0 c1 c2 c3 c4 c5 c6 hb02 hb3 HWy
 go_wp2_with fail
 refine(HK.out _ hb03).mono ?_
 rintro x w4 ⟨nv',cv',rfl,hn4,hc4,hb4⟩
 obtain⟨a1,k1,rfl⟩:=slice_of hn4
 obtain⟨a2,k2,rfl⟩:=slice_of hc4
 have hb04:Below w.heap.size w w4:=hb03.trans (hb4.mono hb03.size)
 have hba:Below w4.heap.size w4 (w4.alloc (.cells #[.string D.tb,.int .i64 (D.pos:Int),.slice a1 D.nm.length k1,.slice a2 D.cl.length k2,.bool D.clash] 32)):=(Below.refl _ w4).alloc (Nat.le_refl _) _
 have g5:Row (w4.alloc (.cells #[.string D.tb,.int .i64 (D.pos:Int),.slice a1 D.nm.length k1,.slice a2 D.cl.length k2,.bool D.clash] 32)) w4.heap.size 32 #[.string D.tb,.int .i64 (D.pos:Int),.slice a1 D.nm.length k1,.slice a2 D.cl.length k2,.bool D.clash]:=Row.new w4 _ _
 have p5:=(Hp3.out.below hb4 Hp3.out.lt).alloc (.cells #[.string D.tb,.int .i64 (D.pos:Int),.slice a1 D.nm.length k1,.slice a2 D.cl.length k2,.bool D.clash] 32)
 have q5:=(Hq3.out.below hb4 Hq3.out.lt).alloc (.cells #[.string D.tb,.int .i64 (D.pos:Int),.slice a1 D.nm.length k1,.slice a2 D.cl.length k2,.bool D.clash] 32)
 have hb05:=hb04.trans (hba.mono hb04.size)
 have hn5:=ownsRow_weak (owns_below hn4 hba) (Nat.zero_le _)
 have hc5:=ownsRow_weak (owns_below hc4 hba) (Nat.zero_le _)
 generalize hW5:w4.alloc (.cells #[.string D.tb,.int .i64 (D.pos:Int),.slice a1 D.nm.length k1,.slice a2 D.cl.length k2,.bool D.clash] 32)=W5 at*
 have HT5:=Lib.hid (HT.out a1 k1 a2 k2 W5 hn5 hc5)
 have c0:W5.cell? ⟨w.heap.size,0,none⟩=some (.int .i64 2):=p5.cell 0
 have c1:W5.cell? ⟨w.heap.size,1,none⟩=some (.string key):=p5.cell 1
 have c2:W5.cell? ⟨w.heap.size,2,none⟩=some (.string d.tb):=p5.cell 2
 have c3:W5.cell? ⟨w.heap.size,3,none⟩=some (.int .i64 (d.pos:Int)):=p5.cell 3
 have c4:W5.cell? ⟨w.heap.size,4,none⟩=some (.slice na d.nm.length nk):=p5.cell 4
 have c5:W5.cell? ⟨w.heap.size,5,none⟩=some (.slice ca d.cl.length ck):=p5.cell 5
 have c6:W5.cell? ⟨w.heap.size,6,none⟩=some (.bool d.clash):=p5.cell 6
 have e0:W5.cell? ⟨w4.heap.size,0,none⟩=some (.string D.tb):=g5.cell 0
 have e1:W5.cell? ⟨w4.heap.size,1,none⟩=some (.int .i64 (D.pos:Int)):=g5.cell 1
 have e2:W5.cell? ⟨w4.heap.size,2,none⟩=some (.slice a1 D.nm.length k1):=g5.cell 2
 have e3:W5.cell? ⟨w4.heap.size,3,none⟩=some (.slice a2 D.cl.length k2):=g5.cell 3
 have e4:W5.cell? ⟨w4.heap.size,4,none⟩=some (.bool D.clash):=g5.cell 4
 have Hq5:=Lib.hid q5
 have Hb5:=Lib.hid hb05
 clear p5 q5 g5 hba hb05 hn5 hc5 hn4 hc4 hb03 hb04 hb4 Hp3 Hq3 HK HT HN HC
 go_wp2_with fail
 refine HT5.out.mono ?_
 rintro x w6 ⟨nv2,cv2,rfl,hn6,hc6,hb6⟩
 obtain⟨a3,k3,rfl⟩:=slice_of hn6
 obtain⟨a4,k4,rfl⟩:=slice_of hc6
 have q6:=Hq5.out.below hb6 Hq5.out.lt
 have hb06:Below w.heap.size w w6:=Hb5.out.trans (hb6.mono Hb5.out.size)
 have hs5:w.heap.size+2≤W5.heap.size:=by have:=Hq5.out.lt;omega
 have n6:=ownsRow_weak hn6 hs5
 have l6:=ownsRow_weak hc6 hs5
 clear hW5 e0 e1 e2 e3 e4 c0 c1 c2 c3 c4 c5 c6 hn6 hc6 hb6 hs5 Hq5 Hb5 HT5
 have e0:w6.cell? ⟨w.heap.size+1,0,none⟩=some (.int .i64 0):=q6.cell 0
 have f0:=q6.frozen 0
 have e1:w6.cell? ⟨w.heap.size+1,1,none⟩=some (.string ⟨#[]⟩):=q6.cell 1
 have f1:=q6.frozen 1
 have e2:w6.cell? ⟨w.heap.size+1,2,none⟩=some (.string ⟨#[]⟩):=q6.cell 2
 have f2:=q6.frozen 2
 have e3:w6.cell? ⟨w.heap.size+1,3,none⟩=some (.int .i64 0):=q6.cell 3
 have f3:=q6.frozen 3
 have e4:w6.cell? ⟨w.heap.size+1,4,none⟩=some (.slice none 0 0):=q6.cell 4
 have f4:=q6.frozen 4
 have e5:w6.cell? ⟨w.heap.size+1,5,none⟩=some (.slice none 0 0):=q6.cell 5
 have f5:=q6.frozen 5
 have e6:w6.cell? ⟨w.heap.size+1,6,none⟩=some (.bool false):=q6.cell 6
 have f6:=q6.frozen 6
 have y0:Row w6 (w.heap.size+1) 34 #[.int .i64 0,.string ⟨#[]⟩,.string ⟨#[]⟩,.int .i64 0,.slice none 0 0,.slice none 0 0,.bool false]:=q6
 have n0:=n6
 have l0:=l6
 have b0:=hb06
 have y1:Row (w6.setCell ⟨w.heap.size+1,0,none⟩ (.int .i64 2)) (w.heap.size+1) 34 #[.int .i64 2,.string ⟨#[]⟩,.string ⟨#[]⟩,.int .i64 0,.slice none 0 0,.slice none 0 0,.bool false]:=y0.store 0 _
 have n1:=ownsRow_setCell_below (a:=⟨w.heap.size+1,0,none⟩) n0 (by show w.heap.size+1<w.heap.size+2;omega) (.int .i64 2)
 have l1:=ownsRow_setCell_below (a:=⟨w.heap.size+1,0,none⟩) l0 (by show w.heap.size+1<w.heap.size+2;omega) (.int .i64 2)
 have b1:=Below.setCell b0 (p:=⟨w.heap.size+1,0,none⟩) (by show w.heap.size≤w.heap.size+1;omega) (.int .i64 2)
 have y2:Row ((w6.setCell ⟨w.heap.size+1,0,none⟩ (.int .i64 2)).setCell ⟨w.heap.size+1,1,none⟩ (.string key)) (w.heap.size+1) 34 #[.int .i64 2,.string key,.string ⟨#[]⟩,.int .i64 0,.slice none 0 0,.slice none 0 0,.bool false]:=y1.store 1 _
 have n2:=ownsRow_setCell_below (a:=⟨w.heap.size+1,1,none⟩) n1 (by show w.heap.size+1<w.heap.size+2;omega) (.string key)
 have l2:=ownsRow_setCell_below (a:=⟨w.heap.size+1,1,none⟩) l1 (by show w.heap.size+1<w.heap.size+2;omega) (.string key)
 have b2:=Below.setCell b1 (p:=⟨w.heap.size+1,1,none⟩) (by show w.heap.size≤w.heap.size+1;omega) (.string key)
 have y3:Row (((w6.setCell ⟨w.heap.size+1,0,none⟩ (.int .i64 2)).setCell ⟨w.heap.size+1,1,none⟩ (.string key)).setCell ⟨w.heap.size+1,2,none⟩ (.string D.tb)) (w.heap.size+1) 34 #[.int .i64 2,.string key,.string D.tb,.int .i64 0,.slice none 0 0,.slice none 0 0,.bool false]:=y2.store 2 _
 have n3:=ownsRow_setCell_below (a:=⟨w.heap.size+1,2,none⟩) n2 (by show w.heap.size+1<w.heap.size+2;omega) (.string D.tb)
 have l3:=ownsRow_setCell_below (a:=⟨w.heap.size+1,2,none⟩) l2 (by show w.heap.size+1<w.heap.size+2;omega) (.string D.tb)
 have b3:=Below.setCell b2 (p:=⟨w.heap.size+1,2,none⟩) (by show w.heap.size≤w.heap.size+1;omega) (.string D.tb)
 have y4:Row ((((w6.setCell ⟨w.heap.size+1,0,none⟩ (.int .i64 2)).setCell ⟨w.heap.size+1,1,none⟩ (.string key)).setCell ⟨w.heap.size+1,2,none⟩ (.string D.tb)).setCell ⟨w.heap.size+1,3,none⟩ (.int .i64 (D.pos:Int))) (w.heap.size+1) 34 #[.int .i64 2,.string key,.string D.tb,.int .i64 (D.pos:Int),.slice none 0 0,.slice none 0 0,.bool false]:=y3.store 3 _
 have n4:=ownsRow_setCell_below (a:=⟨w.heap.size+1,3,none⟩) n3 (by show w.heap.size+1<w.heap.size+2;omega) (.int .i64 (D.pos:Int))
 have l4:=ownsRow_setCell_below (a:=⟨w.heap.size+1,3,none⟩) l3 (by show w.heap.size+1<w.heap.size+2;omega) (.int .i64 (D.pos:Int))
 have b4:=Below.setCell b3 (p:=⟨w.heap.size+1,3,none⟩) (by show w.heap.size≤w.heap.size+1;omega) (.int .i64 (D.pos:Int))
 have y5:Row (((((w6.setCell ⟨w.heap.size+1,0,none⟩ (.int .i64 2)).setCell ⟨w.heap.size+1,1,none⟩ (.string key)).setCell ⟨w.heap.size+1,2,none⟩ (.string D.tb)).setCell ⟨w.heap.size+1,3,none⟩ (.int .i64 (D.pos:Int))).setCell ⟨w.heap.size+1,4,none⟩ (.slice a3 D.nm.length k3)) (w.heap.size+1) 34 #[.int .i64 2,.string key,.string D.tb,.int .i64 (D.pos:Int),.slice a3 D.nm.length k3,.slice none 0 0,.bool false]:=y4.store 4 _
 have n5:=ownsRow_setCell_below (a:=⟨w.heap.size+1,4,none⟩) n4 (by show w.heap.size+1<w.heap.size+2;omega) (.slice a3 D.nm.length k3)
 have l5:=ownsRow_setCell_below (a:=⟨w.heap.size+1,4,none⟩) l4 (by show w.heap.size+1<w.heap.size+2;omega) (.slice a3 D.nm.length k3)
 have b5:=Below.setCell b4 (p:=⟨w.heap.size+1,4,none⟩) (by show w.heap.size≤w.heap.size+1;omega) (.slice a3 D.nm.length k3)
 have y6:Row ((((((w6.setCell ⟨w.heap.size+1,0,none⟩ (.int .i64 2)).setCell ⟨w.heap.size+1,1,none⟩ (.string key)).setCell ⟨w.heap.size+1,2,none⟩ (.string D.tb)).setCell ⟨w.heap.size+1,3,none⟩ (.int .i64 (D.pos:Int))).setCell ⟨w.heap.size+1,4,none⟩ (.slice a3 D.nm.length k3)).setCell ⟨w.heap.size+1,5,none⟩ (.slice a4 D.cl.length k4)) (w.heap.size+1) 34 #[.int .i64 2,.string key,.string D.tb,.int .i64 (D.pos:Int),.slice a3 D.nm.length k3,.slice a4 D.cl.length k4,.bool false]:=y5.store 5 _
 have n6:=ownsRow_setCell_below (a:=⟨w.heap.size+1,5,none⟩) n5 (by show w.heap.size+1<w.heap.size+2;omega) (.slice a4 D.cl.length k4)
 have l6:=ownsRow_setCell_below (a:=⟨w.heap.size+1,5,none⟩) l5 (by show w.heap.size+1<w.heap.size+2;omega) (.slice a4 D.cl.length k4)
 have b6:=Below.setCell b5 (p:=⟨w.heap.size+1,5,none⟩) (by show w.heap.size≤w.heap.size+1;omega) (.slice a4 D.cl.length k4)
 have y7:Row (((((((w6.setCell ⟨w.heap.size+1,0,none⟩ (.int .i64 2)).setCell ⟨w.heap.size+1,1,none⟩ (.string key)).setCell ⟨w.heap.size+1,2,none⟩ (.string D.tb)).setCell ⟨w.heap.size+1,3,none⟩ (.int .i64 (D.pos:Int))).setCell ⟨w.heap.size+1,4,none⟩ (.slice a3 D.nm.length k3)).setCell ⟨w.heap.size+1,5,none⟩ (.slice a4 D.cl.length k4)).setCell ⟨w.heap.size+1,6,none⟩ (.bool D.clash)) (w.heap.size+1) 34 #[.int .i64 2,.string key,.string D.tb,.int .i64 (D.pos:Int),.slice a3 D.nm.length k3,.slice a4 D.cl.length k4,.bool D.clash]:=y6.store 6 _
 have n7:=ownsRow_setCell_below (a:=⟨w.heap.size+1,6,none⟩) n6 (by show w.heap.size+1<w.heap.size+2;omega) (.bool D.clash)
 have l7:=ownsRow_setCell_below (a:=⟨w.heap.size+1,6,none⟩) l6 (by show w.heap.size+1<w.heap.size+2;omega) (.bool D.clash)
 have b7:=Below.setCell b6 (p:=⟨w.heap.size+1,6,none⟩) (by show w.heap.size≤w.heap.size+1;omega) (.bool D.clash)
 obtain⟨WF,hWF⟩:∃ WF,(((((((w6.setCell ⟨w.heap.size+1,0,none⟩ (.int .i64 2)).setCell ⟨w.heap.size+1,1,none⟩ (.string key)).setCell ⟨w.heap.size+1,2,none⟩ (.string D.tb)).setCell ⟨w.heap.size+1,3,none⟩ (.int .i64 (D.pos:Int))).setCell ⟨w.heap.size+1,4,none⟩ (.slice a3 D.nm.length k3)).setCell ⟨w.heap.size+1,5,none⟩ (.slice a4 D.cl.length k4)).setCell ⟨w.heap.size+1,6,none⟩ (.bool D.clash))=WF:=⟨_,rfl⟩
 rw [hWF] at y7 n7 l7 b7
 have Hy:=Lib.hid y7
 have Hn:=Lib.hid n7
 have Hl:=Lib.hid l7
 have Hbf:=Lib.hid b7
 clear y0 y1 y2 y3 y4 y5 y6 y7 n0 n1 n2 n3 n4 n5 n6 n7 l0 l1 l2 l3 l4 l5 l6 l7 b0 b1 b2 b3 b4 b5 b6 b7
 clear q6 n6 l6 hb06
 go_wp2
 all_goals
  refine bodyPost_ret (results_tct _ _ (g:=w.heap.size+1) (t:=34) rfl rfl Hy.out Tryz.underlying34 rfl (by kernel_rfl)) rfl ⟨_,_,rfl,?_,?_,?_⟩
  · exact ownsRow_weak (W:=WF) Hn.out (by omega)
  · exact ownsRow_weak (W:=WF) Hl.out (by omega)
  · exact Hbf.out
theorem oracleCell_real [Sha.Words] (o:Orc) (hg:o.Good) (hm:o.m=1) (nv cv:Value) (lb tx:ByteArray) (hlb:lb.size=16) (htx:tx.size=24) (hl:o.d.cl.length≠2000)
 (hok:(o.wayC lb tx).2.2=0) (w:World) (hR:Sha.RoundIn w) (hN:NmAt w 0 nv o.d.nm) (hC:ClAt w 0 cv o.d.cl):
 Calls Tryz.prog 79 #[.agg (Orc.vals 1 o.key o.d.tb o.d.pos nv cv o.d.clash),.string lb,.string tx] w fun x w'=>∃ nv' cv',x= .returned (.tuple #[.string (o.wayC lb tx).1,.agg (Orc.vals 1 o.key (o.wayC lb tx).2.1.tb (o.wayC lb tx).2.1.pos nv' cv' (o.wayC lb tx).2.1.clash),.int .i64 0])∧NmAt w' w.heap.size nv' (o.wayC lb tx).2.1.nm∧ClAt w' w.heap.size cv' (o.wayC lb tx).2.1.cl∧Below w.heap.size w w':=by
 have hRt:=fun w1 (hb:Below w.heap.size w w1)=>oracleRight_any 1 (.inl rfl) o.key hg.key o.d hg.d nv cv w1 (owns_below hN hb) (owns_below hC hb)
 have hWy:=fun w1=>way_real o.key o.d.tb o.d.pos nv cv o.d.clash w1
 have hK:=fun w1 (hb:Below w.heap.size w w1)=>keyedC_any o hg hm nv cv lb tx hlb htx hl w1 (hR.below hb) (owns_below hN hb) (owns_below hC hb)
 have hD:(o.wayC lb tx).2.1.Good:=Orc.wayC_good hg hlb htx hl (fun h=>by rw [hm] at h;cases h)
 obtain⟨na,nk,rfl⟩:=slice_of hN
 obtain⟨ca,ck,rfl⟩:=slice_of hC
 generalize o.wayC lb tx=R at*
 obtain⟨m,key,d⟩:=o
 obtain⟨s,D,z⟩:=R
 dsimp only at*
 subst hm
 subst hok
 have hT:=fun a1 k1 a2 k2 W (h1:NmAt W 0 (.slice a1 D.nm.length k1) D.nm) (h2:ClAt W 0 (.slice a2 D.cl.length k2) D.cl)=>told_ok 1 key d.tb d.pos (.slice na d.nm.length nk) (.slice ca d.cl.length ck) d.clash s D.tb D.pos (.slice a1 D.nm.length k1) (.slice a2 D.cl.length k2) D.clash D (Nat.le_trans hD.nms (by decide)) (Nat.le_trans hD.cls (by decide)) W h1 h2
 have HN:=Lib.hid hN
 have HC:=Lib.hid hC
 clear hg hl hD hN hC
 unfold WayIs Orc.vals Idl.vals at*
 obtain⟨p0,q0,hb0,hz0⟩:=box2 w #[.int .i64 1,.string key,.string d.tb,.int .i64 (d.pos:Int),.slice na d.nm.length nk,.slice ca d.cl.length ck,.bool d.clash] #[.int .i64 0,.string ⟨#[]⟩,.string ⟨#[]⟩,.int .i64 0,.slice none 0 0,.slice none 0 0,.bool false] 34 34
 have HRt:=Lib.hid hRt
 have HWy:=Lib.hid hWy
 have HK:=Lib.hid hK
 have HT:=Lib.hid hT
 clear hRt hWy hK hT hR
 have hme:=meth_keyed_cell
 have s1:(lb.size:Int)=16:=by omega
 have s2:(tx.size:Int)=24:=by omega
 clear hlb htx
 go_enter Tryz.func79,Tryz.ntmps79
 have hb01:=hb0
 have Hp1:=Lib.hid p0
 have Hq1:=Lib.hid q0
 clear p0 q0 hb0 hz0
 go_wp2_with fail
 refine(HRt.out _ hb01).mono ?_
 rintro x w2 ⟨rfl,hb2⟩
 have hb02:Below w.heap.size w w2:=hb01.trans (hb2.mono hb01.size)
 have Hp2:=Lib.hid (Hp1.out.below hb2 Hp1.out.lt)
 have Hq2:=Lib.hid (Hq1.out.below hb2 Hq1.out.lt)
 clear Hp1 Hq1  hb01 hb2 HRt
 have c0:w2.cell? ⟨w.heap.size,0,none⟩=some (.int .i64 1):=Hp2.out.cell 0
 have c1:w2.cell? ⟨w.heap.size,1,none⟩=some (.string key):=Hp2.out.cell 1
 have c2:w2.cell? ⟨w.heap.size,2,none⟩=some (.string d.tb):=Hp2.out.cell 2
 have c3:w2.cell? ⟨w.heap.size,3,none⟩=some (.int .i64 (d.pos:Int)):=Hp2.out.cell 3
 have c4:w2.cell? ⟨w.heap.size,4,none⟩=some (.slice na d.nm.length nk):=Hp2.out.cell 4
 have c5:w2.cell? ⟨w.heap.size,5,none⟩=some (.slice ca d.cl.length ck):=Hp2.out.cell 5
 have c6:w2.cell? ⟨w.heap.size,6,none⟩=some (.bool d.clash):=Hp2.out.cell 6
 go_wp2_with fail
 refine(HWy.out _).mono ?_
 rintro x w3 ⟨rfl,hb3⟩
 have hb03:Below w.heap.size w w3:=hb02.trans (hb3.mono hb02.size)
 have Hp3:=Lib.hid (Hp2.out.below hb3 Hp2.out.lt)
 have Hq3:=Lib.hid (Hq2.out.below hb3 Hq2.out.lt)
 clear Hp2 Hq2 c0 c1 c2 c3 c4 c5 c6 hb02 hb3 HWy
 go_wp2_with fail
 refine(HK.out _ hb03).mono ?_
 rintro x w4 ⟨nv',cv',rfl,hn4,hc4,hb4⟩
 obtain⟨a1,k1,rfl⟩:=slice_of hn4
 obtain⟨a2,k2,rfl⟩:=slice_of hc4
 have hb04:Below w.heap.size w w4:=hb03.trans (hb4.mono hb03.size)
 have hba:Below w4.heap.size w4 (w4.alloc (.cells #[.string D.tb,.int .i64 (D.pos:Int),.slice a1 D.nm.length k1,.slice a2 D.cl.length k2,.bool D.clash] 32)):=(Below.refl _ w4).alloc (Nat.le_refl _) _
 have g5:Row (w4.alloc (.cells #[.string D.tb,.int .i64 (D.pos:Int),.slice a1 D.nm.length k1,.slice a2 D.cl.length k2,.bool D.clash] 32)) w4.heap.size 32 #[.string D.tb,.int .i64 (D.pos:Int),.slice a1 D.nm.length k1,.slice a2 D.cl.length k2,.bool D.clash]:=Row.new w4 _ _
 have p5:=(Hp3.out.below hb4 Hp3.out.lt).alloc (.cells #[.string D.tb,.int .i64 (D.pos:Int),.slice a1 D.nm.length k1,.slice a2 D.cl.length k2,.bool D.clash] 32)
 have q5:=(Hq3.out.below hb4 Hq3.out.lt).alloc (.cells #[.string D.tb,.int .i64 (D.pos:Int),.slice a1 D.nm.length k1,.slice a2 D.cl.length k2,.bool D.clash] 32)
 have hb05:=hb04.trans (hba.mono hb04.size)
 have hn5:=ownsRow_weak (owns_below hn4 hba) (Nat.zero_le _)
 have hc5:=ownsRow_weak (owns_below hc4 hba) (Nat.zero_le _)
 generalize hW5:w4.alloc (.cells #[.string D.tb,.int .i64 (D.pos:Int),.slice a1 D.nm.length k1,.slice a2 D.cl.length k2,.bool D.clash] 32)=W5 at*
 have HT5:=Lib.hid (HT.out a1 k1 a2 k2 W5 hn5 hc5)
 have c0:W5.cell? ⟨w.heap.size,0,none⟩=some (.int .i64 1):=p5.cell 0
 have c1:W5.cell? ⟨w.heap.size,1,none⟩=some (.string key):=p5.cell 1
 have c2:W5.cell? ⟨w.heap.size,2,none⟩=some (.string d.tb):=p5.cell 2
 have c3:W5.cell? ⟨w.heap.size,3,none⟩=some (.int .i64 (d.pos:Int)):=p5.cell 3
 have c4:W5.cell? ⟨w.heap.size,4,none⟩=some (.slice na d.nm.length nk):=p5.cell 4
 have c5:W5.cell? ⟨w.heap.size,5,none⟩=some (.slice ca d.cl.length ck):=p5.cell 5
 have c6:W5.cell? ⟨w.heap.size,6,none⟩=some (.bool d.clash):=p5.cell 6
 have e0:W5.cell? ⟨w4.heap.size,0,none⟩=some (.string D.tb):=g5.cell 0
 have e1:W5.cell? ⟨w4.heap.size,1,none⟩=some (.int .i64 (D.pos:Int)):=g5.cell 1
 have e2:W5.cell? ⟨w4.heap.size,2,none⟩=some (.slice a1 D.nm.length k1):=g5.cell 2
 have e3:W5.cell? ⟨w4.heap.size,3,none⟩=some (.slice a2 D.cl.length k2):=g5.cell 3
 have e4:W5.cell? ⟨w4.heap.size,4,none⟩=some (.bool D.clash):=g5.cell 4
 have Hq5:=Lib.hid q5
 have Hb5:=Lib.hid hb05
 clear p5 q5 g5 hba hb05 hn5 hc5 hn4 hc4 hb03 hb04 hb4 Hp3 Hq3 HK HT HN HC
 go_wp2_with fail
 refine HT5.out.mono ?_
 rintro x w6 ⟨nv2,cv2,rfl,hn6,hc6,hb6⟩
 obtain⟨a3,k3,rfl⟩:=slice_of hn6
 obtain⟨a4,k4,rfl⟩:=slice_of hc6
 have q6:=Hq5.out.below hb6 Hq5.out.lt
 have hb06:Below w.heap.size w w6:=Hb5.out.trans (hb6.mono Hb5.out.size)
 have hs5:w.heap.size+2≤W5.heap.size:=by have:=Hq5.out.lt;omega
 have n6:=ownsRow_weak hn6 hs5
 have l6:=ownsRow_weak hc6 hs5
 clear hW5 e0 e1 e2 e3 e4 c0 c1 c2 c3 c4 c5 c6 hn6 hc6 hb6 hs5 Hq5 Hb5 HT5
 have e0:w6.cell? ⟨w.heap.size+1,0,none⟩=some (.int .i64 0):=q6.cell 0
 have f0:=q6.frozen 0
 have e1:w6.cell? ⟨w.heap.size+1,1,none⟩=some (.string ⟨#[]⟩):=q6.cell 1
 have f1:=q6.frozen 1
 have e2:w6.cell? ⟨w.heap.size+1,2,none⟩=some (.string ⟨#[]⟩):=q6.cell 2
 have f2:=q6.frozen 2
 have e3:w6.cell? ⟨w.heap.size+1,3,none⟩=some (.int .i64 0):=q6.cell 3
 have f3:=q6.frozen 3
 have e4:w6.cell? ⟨w.heap.size+1,4,none⟩=some (.slice none 0 0):=q6.cell 4
 have f4:=q6.frozen 4
 have e5:w6.cell? ⟨w.heap.size+1,5,none⟩=some (.slice none 0 0):=q6.cell 5
 have f5:=q6.frozen 5
 have e6:w6.cell? ⟨w.heap.size+1,6,none⟩=some (.bool false):=q6.cell 6
 have f6:=q6.frozen 6
 have y0:Row w6 (w.heap.size+1) 34 #[.int .i64 0,.string ⟨#[]⟩,.string ⟨#[]⟩,.int .i64 0,.slice none 0 0,.slice none 0 0,.bool false]:=q6
 have n0:=n6
 have l0:=l6
 have b0:=hb06
 have y1:Row (w6.setCell ⟨w.heap.size+1,0,none⟩ (.int .i64 1)) (w.heap.size+1) 34 #[.int .i64 1,.string ⟨#[]⟩,.string ⟨#[]⟩,.int .i64 0,.slice none 0 0,.slice none 0 0,.bool false]:=y0.store 0 _
 have n1:=ownsRow_setCell_below (a:=⟨w.heap.size+1,0,none⟩) n0 (by show w.heap.size+1<w.heap.size+2;omega) (.int .i64 1)
 have l1:=ownsRow_setCell_below (a:=⟨w.heap.size+1,0,none⟩) l0 (by show w.heap.size+1<w.heap.size+2;omega) (.int .i64 1)
 have b1:=Below.setCell b0 (p:=⟨w.heap.size+1,0,none⟩) (by show w.heap.size≤w.heap.size+1;omega) (.int .i64 1)
 have y2:Row ((w6.setCell ⟨w.heap.size+1,0,none⟩ (.int .i64 1)).setCell ⟨w.heap.size+1,1,none⟩ (.string key)) (w.heap.size+1) 34 #[.int .i64 1,.string key,.string ⟨#[]⟩,.int .i64 0,.slice none 0 0,.slice none 0 0,.bool false]:=y1.store 1 _
 have n2:=ownsRow_setCell_below (a:=⟨w.heap.size+1,1,none⟩) n1 (by show w.heap.size+1<w.heap.size+2;omega) (.string key)
 have l2:=ownsRow_setCell_below (a:=⟨w.heap.size+1,1,none⟩) l1 (by show w.heap.size+1<w.heap.size+2;omega) (.string key)
 have b2:=Below.setCell b1 (p:=⟨w.heap.size+1,1,none⟩) (by show w.heap.size≤w.heap.size+1;omega) (.string key)
 have y3:Row (((w6.setCell ⟨w.heap.size+1,0,none⟩ (.int .i64 1)).setCell ⟨w.heap.size+1,1,none⟩ (.string key)).setCell ⟨w.heap.size+1,2,none⟩ (.string D.tb)) (w.heap.size+1) 34 #[.int .i64 1,.string key,.string D.tb,.int .i64 0,.slice none 0 0,.slice none 0 0,.bool false]:=y2.store 2 _
 have n3:=ownsRow_setCell_below (a:=⟨w.heap.size+1,2,none⟩) n2 (by show w.heap.size+1<w.heap.size+2;omega) (.string D.tb)
 have l3:=ownsRow_setCell_below (a:=⟨w.heap.size+1,2,none⟩) l2 (by show w.heap.size+1<w.heap.size+2;omega) (.string D.tb)
 have b3:=Below.setCell b2 (p:=⟨w.heap.size+1,2,none⟩) (by show w.heap.size≤w.heap.size+1;omega) (.string D.tb)
 have y4:Row ((((w6.setCell ⟨w.heap.size+1,0,none⟩ (.int .i64 1)).setCell ⟨w.heap.size+1,1,none⟩ (.string key)).setCell ⟨w.heap.size+1,2,none⟩ (.string D.tb)).setCell ⟨w.heap.size+1,3,none⟩ (.int .i64 (D.pos:Int))) (w.heap.size+1) 34 #[.int .i64 1,.string key,.string D.tb,.int .i64 (D.pos:Int),.slice none 0 0,.slice none 0 0,.bool false]:=y3.store 3 _
 have n4:=ownsRow_setCell_below (a:=⟨w.heap.size+1,3,none⟩) n3 (by show w.heap.size+1<w.heap.size+2;omega) (.int .i64 (D.pos:Int))
 have l4:=ownsRow_setCell_below (a:=⟨w.heap.size+1,3,none⟩) l3 (by show w.heap.size+1<w.heap.size+2;omega) (.int .i64 (D.pos:Int))
 have b4:=Below.setCell b3 (p:=⟨w.heap.size+1,3,none⟩) (by show w.heap.size≤w.heap.size+1;omega) (.int .i64 (D.pos:Int))
 have y5:Row (((((w6.setCell ⟨w.heap.size+1,0,none⟩ (.int .i64 1)).setCell ⟨w.heap.size+1,1,none⟩ (.string key)).setCell ⟨w.heap.size+1,2,none⟩ (.string D.tb)).setCell ⟨w.heap.size+1,3,none⟩ (.int .i64 (D.pos:Int))).setCell ⟨w.heap.size+1,4,none⟩ (.slice a3 D.nm.length k3)) (w.heap.size+1) 34 #[.int .i64 1,.string key,.string D.tb,.int .i64 (D.pos:Int),.slice a3 D.nm.length k3,.slice none 0 0,.bool false]:=y4.store 4 _
 have n5:=ownsRow_setCell_below (a:=⟨w.heap.size+1,4,none⟩) n4 (by show w.heap.size+1<w.heap.size+2;omega) (.slice a3 D.nm.length k3)
 have l5:=ownsRow_setCell_below (a:=⟨w.heap.size+1,4,none⟩) l4 (by show w.heap.size+1<w.heap.size+2;omega) (.slice a3 D.nm.length k3)
 have b5:=Below.setCell b4 (p:=⟨w.heap.size+1,4,none⟩) (by show w.heap.size≤w.heap.size+1;omega) (.slice a3 D.nm.length k3)
 have y6:Row ((((((w6.setCell ⟨w.heap.size+1,0,none⟩ (.int .i64 1)).setCell ⟨w.heap.size+1,1,none⟩ (.string key)).setCell ⟨w.heap.size+1,2,none⟩ (.string D.tb)).setCell ⟨w.heap.size+1,3,none⟩ (.int .i64 (D.pos:Int))).setCell ⟨w.heap.size+1,4,none⟩ (.slice a3 D.nm.length k3)).setCell ⟨w.heap.size+1,5,none⟩ (.slice a4 D.cl.length k4)) (w.heap.size+1) 34 #[.int .i64 1,.string key,.string D.tb,.int .i64 (D.pos:Int),.slice a3 D.nm.length k3,.slice a4 D.cl.length k4,.bool false]:=y5.store 5 _
 have n6:=ownsRow_setCell_below (a:=⟨w.heap.size+1,5,none⟩) n5 (by show w.heap.size+1<w.heap.size+2;omega) (.slice a4 D.cl.length k4)
 have l6:=ownsRow_setCell_below (a:=⟨w.heap.size+1,5,none⟩) l5 (by show w.heap.size+1<w.heap.size+2;omega) (.slice a4 D.cl.length k4)
 have b6:=Below.setCell b5 (p:=⟨w.heap.size+1,5,none⟩) (by show w.heap.size≤w.heap.size+1;omega) (.slice a4 D.cl.length k4)
 have y7:Row (((((((w6.setCell ⟨w.heap.size+1,0,none⟩ (.int .i64 1)).setCell ⟨w.heap.size+1,1,none⟩ (.string key)).setCell ⟨w.heap.size+1,2,none⟩ (.string D.tb)).setCell ⟨w.heap.size+1,3,none⟩ (.int .i64 (D.pos:Int))).setCell ⟨w.heap.size+1,4,none⟩ (.slice a3 D.nm.length k3)).setCell ⟨w.heap.size+1,5,none⟩ (.slice a4 D.cl.length k4)).setCell ⟨w.heap.size+1,6,none⟩ (.bool D.clash)) (w.heap.size+1) 34 #[.int .i64 1,.string key,.string D.tb,.int .i64 (D.pos:Int),.slice a3 D.nm.length k3,.slice a4 D.cl.length k4,.bool D.clash]:=y6.store 6 _
 have n7:=ownsRow_setCell_below (a:=⟨w.heap.size+1,6,none⟩) n6 (by show w.heap.size+1<w.heap.size+2;omega) (.bool D.clash)
 have l7:=ownsRow_setCell_below (a:=⟨w.heap.size+1,6,none⟩) l6 (by show w.heap.size+1<w.heap.size+2;omega) (.bool D.clash)
 have b7:=Below.setCell b6 (p:=⟨w.heap.size+1,6,none⟩) (by show w.heap.size≤w.heap.size+1;omega) (.bool D.clash)
 obtain⟨WF,hWF⟩:∃ WF,(((((((w6.setCell ⟨w.heap.size+1,0,none⟩ (.int .i64 1)).setCell ⟨w.heap.size+1,1,none⟩ (.string key)).setCell ⟨w.heap.size+1,2,none⟩ (.string D.tb)).setCell ⟨w.heap.size+1,3,none⟩ (.int .i64 (D.pos:Int))).setCell ⟨w.heap.size+1,4,none⟩ (.slice a3 D.nm.length k3)).setCell ⟨w.heap.size+1,5,none⟩ (.slice a4 D.cl.length k4)).setCell ⟨w.heap.size+1,6,none⟩ (.bool D.clash))=WF:=⟨_,rfl⟩
 rw [hWF] at y7 n7 l7 b7
 have Hy:=Lib.hid y7
 have Hn:=Lib.hid n7
 have Hl:=Lib.hid l7
 have Hbf:=Lib.hid b7
 clear y0 y1 y2 y3 y4 y5 y6 y7 n0 n1 n2 n3 n4 n5 n6 n7 l0 l1 l2 l3 l4 l5 l6 l7 b0 b1 b2 b3 b4 b5 b6 b7
 clear q6 n6 l6 hb06
 go_wp2
 all_goals
  refine bodyPost_ret (results_tct _ _ (g:=w.heap.size+1) (t:=34) rfl rfl Hy.out Tryz.underlying34 rfl (by kernel_rfl)) rfl ⟨_,_,rfl,?_,?_,?_⟩
  · exact ownsRow_weak (W:=WF) Hn.out (by omega)
  · exact ownsRow_weak (W:=WF) Hl.out (by omega)
  · exact Hbf.out
theorem oracleCell_drawn [Sha.Words] (o:Orc) (hg:o.Good) (hm:o.m=2) (nv cv:Value) (lb tx:ByteArray) (hlb:lb.size=16) (htx:tx.size=24) (hl:o.d.cl.length≠2000) (hp:o.d.pos+40≤o.d.tb.size)
 (hok:(o.wayC lb tx).2.2=0) (w:World) (hN:NmAt w 0 nv o.d.nm) (hC:ClAt w 0 cv o.d.cl):
 Calls Tryz.prog 79 #[.agg (Orc.vals 2 o.key o.d.tb o.d.pos nv cv o.d.clash),.string lb,.string tx] w fun x w'=>∃ nv' cv',x= .returned (.tuple #[.string (o.wayC lb tx).1,.agg (Orc.vals 2 o.key (o.wayC lb tx).2.1.tb (o.wayC lb tx).2.1.pos nv' cv' (o.wayC lb tx).2.1.clash),.int .i64 0])∧NmAt w' w.heap.size nv' (o.wayC lb tx).2.1.nm∧ClAt w' w.heap.size cv' (o.wayC lb tx).2.1.cl∧Below w.heap.size w w':=by
 have hRt:=fun w1 (hb:Below w.heap.size w w1)=>oracleRight_any 2 (.inr rfl) o.key hg.key o.d hg.d nv cv w1 (owns_below hN hb) (owns_below hC hb)
 have hWy:=fun w1=>way_drawn o.key o.d.tb o.d.pos nv cv o.d.clash w1
 have hK:=fun w1 (hb:Below w.heap.size w w1)=>drawnC_any o hg hm nv cv lb tx hlb htx hl hp w1 (owns_below hN hb) (owns_below hC hb)
 have hD:(o.wayC lb tx).2.1.Good:=Orc.wayC_good hg hlb htx hl (fun _=>hp)
 obtain⟨na,nk,rfl⟩:=slice_of hN
 obtain⟨ca,ck,rfl⟩:=slice_of hC
 generalize o.wayC lb tx=R at*
 obtain⟨m,key,d⟩:=o
 obtain⟨s,D,z⟩:=R
 dsimp only at*
 subst hm
 subst hok
 have hT:=fun a1 k1 a2 k2 W (h1:NmAt W 0 (.slice a1 D.nm.length k1) D.nm) (h2:ClAt W 0 (.slice a2 D.cl.length k2) D.cl)=>told_ok 2 key d.tb d.pos (.slice na d.nm.length nk) (.slice ca d.cl.length ck) d.clash s D.tb D.pos (.slice a1 D.nm.length k1) (.slice a2 D.cl.length k2) D.clash D (Nat.le_trans hD.nms (by decide)) (Nat.le_trans hD.cls (by decide)) W h1 h2
 have HN:=Lib.hid hN
 have HC:=Lib.hid hC
 clear hg hl hD hN hC hp
 unfold WayIs Orc.vals Idl.vals at*
 obtain⟨p0,q0,hb0,hz0⟩:=box2 w #[.int .i64 2,.string key,.string d.tb,.int .i64 (d.pos:Int),.slice na d.nm.length nk,.slice ca d.cl.length ck,.bool d.clash] #[.int .i64 0,.string ⟨#[]⟩,.string ⟨#[]⟩,.int .i64 0,.slice none 0 0,.slice none 0 0,.bool false] 34 34
 have HRt:=Lib.hid hRt
 have HWy:=Lib.hid hWy
 have HK:=Lib.hid hK
 have HT:=Lib.hid hT
 clear hRt hWy hK hT
 have hme:=meth_drawn_cell
 have s1:(lb.size:Int)=16:=by omega
 have s2:(tx.size:Int)=24:=by omega
 clear hlb htx
 go_enter Tryz.func79,Tryz.ntmps79
 have hb01:=hb0
 have Hp1:=Lib.hid p0
 have Hq1:=Lib.hid q0
 clear p0 q0 hb0 hz0
 go_wp2_with fail
 refine(HRt.out _ hb01).mono ?_
 rintro x w2 ⟨rfl,hb2⟩
 have hb02:Below w.heap.size w w2:=hb01.trans (hb2.mono hb01.size)
 have Hp2:=Lib.hid (Hp1.out.below hb2 Hp1.out.lt)
 have Hq2:=Lib.hid (Hq1.out.below hb2 Hq1.out.lt)
 clear Hp1 Hq1  hb01 hb2 HRt
 have c0:w2.cell? ⟨w.heap.size,0,none⟩=some (.int .i64 2):=Hp2.out.cell 0
 have c1:w2.cell? ⟨w.heap.size,1,none⟩=some (.string key):=Hp2.out.cell 1
 have c2:w2.cell? ⟨w.heap.size,2,none⟩=some (.string d.tb):=Hp2.out.cell 2
 have c3:w2.cell? ⟨w.heap.size,3,none⟩=some (.int .i64 (d.pos:Int)):=Hp2.out.cell 3
 have c4:w2.cell? ⟨w.heap.size,4,none⟩=some (.slice na d.nm.length nk):=Hp2.out.cell 4
 have c5:w2.cell? ⟨w.heap.size,5,none⟩=some (.slice ca d.cl.length ck):=Hp2.out.cell 5
 have c6:w2.cell? ⟨w.heap.size,6,none⟩=some (.bool d.clash):=Hp2.out.cell 6
 go_wp2_with fail
 refine(HWy.out _).mono ?_
 rintro x w3 ⟨rfl,hb3⟩
 have hb03:Below w.heap.size w w3:=hb02.trans (hb3.mono hb02.size)
 have Hp3:=Lib.hid (Hp2.out.below hb3 Hp2.out.lt)
 have Hq3:=Lib.hid (Hq2.out.below hb3 Hq2.out.lt)
 clear Hp2 Hq2 c0 c1 c2 c3 c4 c5 c6 hb02 hb3 HWy
 go_wp2_with fail
 refine(HK.out _ hb03).mono ?_
 rintro x w4 ⟨nv',cv',rfl,hn4,hc4,hb4⟩
 obtain⟨a1,k1,rfl⟩:=slice_of hn4
 obtain⟨a2,k2,rfl⟩:=slice_of hc4
 have hb04:Below w.heap.size w w4:=hb03.trans (hb4.mono hb03.size)
 have hba:Below w4.heap.size w4 (w4.alloc (.cells #[.string D.tb,.int .i64 (D.pos:Int),.slice a1 D.nm.length k1,.slice a2 D.cl.length k2,.bool D.clash] 32)):=(Below.refl _ w4).alloc (Nat.le_refl _) _
 have g5:Row (w4.alloc (.cells #[.string D.tb,.int .i64 (D.pos:Int),.slice a1 D.nm.length k1,.slice a2 D.cl.length k2,.bool D.clash] 32)) w4.heap.size 32 #[.string D.tb,.int .i64 (D.pos:Int),.slice a1 D.nm.length k1,.slice a2 D.cl.length k2,.bool D.clash]:=Row.new w4 _ _
 have p5:=(Hp3.out.below hb4 Hp3.out.lt).alloc (.cells #[.string D.tb,.int .i64 (D.pos:Int),.slice a1 D.nm.length k1,.slice a2 D.cl.length k2,.bool D.clash] 32)
 have q5:=(Hq3.out.below hb4 Hq3.out.lt).alloc (.cells #[.string D.tb,.int .i64 (D.pos:Int),.slice a1 D.nm.length k1,.slice a2 D.cl.length k2,.bool D.clash] 32)
 have hb05:=hb04.trans (hba.mono hb04.size)
 have hn5:=ownsRow_weak (owns_below hn4 hba) (Nat.zero_le _)
 have hc5:=ownsRow_weak (owns_below hc4 hba) (Nat.zero_le _)
 generalize hW5:w4.alloc (.cells #[.string D.tb,.int .i64 (D.pos:Int),.slice a1 D.nm.length k1,.slice a2 D.cl.length k2,.bool D.clash] 32)=W5 at*
 have HT5:=Lib.hid (HT.out a1 k1 a2 k2 W5 hn5 hc5)
 have c0:W5.cell? ⟨w.heap.size,0,none⟩=some (.int .i64 2):=p5.cell 0
 have c1:W5.cell? ⟨w.heap.size,1,none⟩=some (.string key):=p5.cell 1
 have c2:W5.cell? ⟨w.heap.size,2,none⟩=some (.string d.tb):=p5.cell 2
 have c3:W5.cell? ⟨w.heap.size,3,none⟩=some (.int .i64 (d.pos:Int)):=p5.cell 3
 have c4:W5.cell? ⟨w.heap.size,4,none⟩=some (.slice na d.nm.length nk):=p5.cell 4
 have c5:W5.cell? ⟨w.heap.size,5,none⟩=some (.slice ca d.cl.length ck):=p5.cell 5
 have c6:W5.cell? ⟨w.heap.size,6,none⟩=some (.bool d.clash):=p5.cell 6
 have e0:W5.cell? ⟨w4.heap.size,0,none⟩=some (.string D.tb):=g5.cell 0
 have e1:W5.cell? ⟨w4.heap.size,1,none⟩=some (.int .i64 (D.pos:Int)):=g5.cell 1
 have e2:W5.cell? ⟨w4.heap.size,2,none⟩=some (.slice a1 D.nm.length k1):=g5.cell 2
 have e3:W5.cell? ⟨w4.heap.size,3,none⟩=some (.slice a2 D.cl.length k2):=g5.cell 3
 have e4:W5.cell? ⟨w4.heap.size,4,none⟩=some (.bool D.clash):=g5.cell 4
 have Hq5:=Lib.hid q5
 have Hb5:=Lib.hid hb05
 clear p5 q5 g5 hba hb05 hn5 hc5 hn4 hc4 hb03 hb04 hb4 Hp3 Hq3 HK HT HN HC
 go_wp2_with fail
 refine HT5.out.mono ?_
 rintro x w6 ⟨nv2,cv2,rfl,hn6,hc6,hb6⟩
 obtain⟨a3,k3,rfl⟩:=slice_of hn6
 obtain⟨a4,k4,rfl⟩:=slice_of hc6
 have q6:=Hq5.out.below hb6 Hq5.out.lt
 have hb06:Below w.heap.size w w6:=Hb5.out.trans (hb6.mono Hb5.out.size)
 have hs5:w.heap.size+2≤W5.heap.size:=by have:=Hq5.out.lt;omega
 have n6:=ownsRow_weak hn6 hs5
 have l6:=ownsRow_weak hc6 hs5
 clear hW5 e0 e1 e2 e3 e4 c0 c1 c2 c3 c4 c5 c6 hn6 hc6 hb6 hs5 Hq5 Hb5 HT5
 have e0:w6.cell? ⟨w.heap.size+1,0,none⟩=some (.int .i64 0):=q6.cell 0
 have f0:=q6.frozen 0
 have e1:w6.cell? ⟨w.heap.size+1,1,none⟩=some (.string ⟨#[]⟩):=q6.cell 1
 have f1:=q6.frozen 1
 have e2:w6.cell? ⟨w.heap.size+1,2,none⟩=some (.string ⟨#[]⟩):=q6.cell 2
 have f2:=q6.frozen 2
 have e3:w6.cell? ⟨w.heap.size+1,3,none⟩=some (.int .i64 0):=q6.cell 3
 have f3:=q6.frozen 3
 have e4:w6.cell? ⟨w.heap.size+1,4,none⟩=some (.slice none 0 0):=q6.cell 4
 have f4:=q6.frozen 4
 have e5:w6.cell? ⟨w.heap.size+1,5,none⟩=some (.slice none 0 0):=q6.cell 5
 have f5:=q6.frozen 5
 have e6:w6.cell? ⟨w.heap.size+1,6,none⟩=some (.bool false):=q6.cell 6
 have f6:=q6.frozen 6
 have y0:Row w6 (w.heap.size+1) 34 #[.int .i64 0,.string ⟨#[]⟩,.string ⟨#[]⟩,.int .i64 0,.slice none 0 0,.slice none 0 0,.bool false]:=q6
 have n0:=n6
 have l0:=l6
 have b0:=hb06
 have y1:Row (w6.setCell ⟨w.heap.size+1,0,none⟩ (.int .i64 2)) (w.heap.size+1) 34 #[.int .i64 2,.string ⟨#[]⟩,.string ⟨#[]⟩,.int .i64 0,.slice none 0 0,.slice none 0 0,.bool false]:=y0.store 0 _
 have n1:=ownsRow_setCell_below (a:=⟨w.heap.size+1,0,none⟩) n0 (by show w.heap.size+1<w.heap.size+2;omega) (.int .i64 2)
 have l1:=ownsRow_setCell_below (a:=⟨w.heap.size+1,0,none⟩) l0 (by show w.heap.size+1<w.heap.size+2;omega) (.int .i64 2)
 have b1:=Below.setCell b0 (p:=⟨w.heap.size+1,0,none⟩) (by show w.heap.size≤w.heap.size+1;omega) (.int .i64 2)
 have y2:Row ((w6.setCell ⟨w.heap.size+1,0,none⟩ (.int .i64 2)).setCell ⟨w.heap.size+1,1,none⟩ (.string key)) (w.heap.size+1) 34 #[.int .i64 2,.string key,.string ⟨#[]⟩,.int .i64 0,.slice none 0 0,.slice none 0 0,.bool false]:=y1.store 1 _
 have n2:=ownsRow_setCell_below (a:=⟨w.heap.size+1,1,none⟩) n1 (by show w.heap.size+1<w.heap.size+2;omega) (.string key)
 have l2:=ownsRow_setCell_below (a:=⟨w.heap.size+1,1,none⟩) l1 (by show w.heap.size+1<w.heap.size+2;omega) (.string key)
 have b2:=Below.setCell b1 (p:=⟨w.heap.size+1,1,none⟩) (by show w.heap.size≤w.heap.size+1;omega) (.string key)
 have y3:Row (((w6.setCell ⟨w.heap.size+1,0,none⟩ (.int .i64 2)).setCell ⟨w.heap.size+1,1,none⟩ (.string key)).setCell ⟨w.heap.size+1,2,none⟩ (.string D.tb)) (w.heap.size+1) 34 #[.int .i64 2,.string key,.string D.tb,.int .i64 0,.slice none 0 0,.slice none 0 0,.bool false]:=y2.store 2 _
 have n3:=ownsRow_setCell_below (a:=⟨w.heap.size+1,2,none⟩) n2 (by show w.heap.size+1<w.heap.size+2;omega) (.string D.tb)
 have l3:=ownsRow_setCell_below (a:=⟨w.heap.size+1,2,none⟩) l2 (by show w.heap.size+1<w.heap.size+2;omega) (.string D.tb)
 have b3:=Below.setCell b2 (p:=⟨w.heap.size+1,2,none⟩) (by show w.heap.size≤w.heap.size+1;omega) (.string D.tb)
 have y4:Row ((((w6.setCell ⟨w.heap.size+1,0,none⟩ (.int .i64 2)).setCell ⟨w.heap.size+1,1,none⟩ (.string key)).setCell ⟨w.heap.size+1,2,none⟩ (.string D.tb)).setCell ⟨w.heap.size+1,3,none⟩ (.int .i64 (D.pos:Int))) (w.heap.size+1) 34 #[.int .i64 2,.string key,.string D.tb,.int .i64 (D.pos:Int),.slice none 0 0,.slice none 0 0,.bool false]:=y3.store 3 _
 have n4:=ownsRow_setCell_below (a:=⟨w.heap.size+1,3,none⟩) n3 (by show w.heap.size+1<w.heap.size+2;omega) (.int .i64 (D.pos:Int))
 have l4:=ownsRow_setCell_below (a:=⟨w.heap.size+1,3,none⟩) l3 (by show w.heap.size+1<w.heap.size+2;omega) (.int .i64 (D.pos:Int))
 have b4:=Below.setCell b3 (p:=⟨w.heap.size+1,3,none⟩) (by show w.heap.size≤w.heap.size+1;omega) (.int .i64 (D.pos:Int))
 have y5:Row (((((w6.setCell ⟨w.heap.size+1,0,none⟩ (.int .i64 2)).setCell ⟨w.heap.size+1,1,none⟩ (.string key)).setCell ⟨w.heap.size+1,2,none⟩ (.string D.tb)).setCell ⟨w.heap.size+1,3,none⟩ (.int .i64 (D.pos:Int))).setCell ⟨w.heap.size+1,4,none⟩ (.slice a3 D.nm.length k3)) (w.heap.size+1) 34 #[.int .i64 2,.string key,.string D.tb,.int .i64 (D.pos:Int),.slice a3 D.nm.length k3,.slice none 0 0,.bool false]:=y4.store 4 _
 have n5:=ownsRow_setCell_below (a:=⟨w.heap.size+1,4,none⟩) n4 (by show w.heap.size+1<w.heap.size+2;omega) (.slice a3 D.nm.length k3)
 have l5:=ownsRow_setCell_below (a:=⟨w.heap.size+1,4,none⟩) l4 (by show w.heap.size+1<w.heap.size+2;omega) (.slice a3 D.nm.length k3)
 have b5:=Below.setCell b4 (p:=⟨w.heap.size+1,4,none⟩) (by show w.heap.size≤w.heap.size+1;omega) (.slice a3 D.nm.length k3)
 have y6:Row ((((((w6.setCell ⟨w.heap.size+1,0,none⟩ (.int .i64 2)).setCell ⟨w.heap.size+1,1,none⟩ (.string key)).setCell ⟨w.heap.size+1,2,none⟩ (.string D.tb)).setCell ⟨w.heap.size+1,3,none⟩ (.int .i64 (D.pos:Int))).setCell ⟨w.heap.size+1,4,none⟩ (.slice a3 D.nm.length k3)).setCell ⟨w.heap.size+1,5,none⟩ (.slice a4 D.cl.length k4)) (w.heap.size+1) 34 #[.int .i64 2,.string key,.string D.tb,.int .i64 (D.pos:Int),.slice a3 D.nm.length k3,.slice a4 D.cl.length k4,.bool false]:=y5.store 5 _
 have n6:=ownsRow_setCell_below (a:=⟨w.heap.size+1,5,none⟩) n5 (by show w.heap.size+1<w.heap.size+2;omega) (.slice a4 D.cl.length k4)
 have l6:=ownsRow_setCell_below (a:=⟨w.heap.size+1,5,none⟩) l5 (by show w.heap.size+1<w.heap.size+2;omega) (.slice a4 D.cl.length k4)
 have b6:=Below.setCell b5 (p:=⟨w.heap.size+1,5,none⟩) (by show w.heap.size≤w.heap.size+1;omega) (.slice a4 D.cl.length k4)
 have y7:Row (((((((w6.setCell ⟨w.heap.size+1,0,none⟩ (.int .i64 2)).setCell ⟨w.heap.size+1,1,none⟩ (.string key)).setCell ⟨w.heap.size+1,2,none⟩ (.string D.tb)).setCell ⟨w.heap.size+1,3,none⟩ (.int .i64 (D.pos:Int))).setCell ⟨w.heap.size+1,4,none⟩ (.slice a3 D.nm.length k3)).setCell ⟨w.heap.size+1,5,none⟩ (.slice a4 D.cl.length k4)).setCell ⟨w.heap.size+1,6,none⟩ (.bool D.clash)) (w.heap.size+1) 34 #[.int .i64 2,.string key,.string D.tb,.int .i64 (D.pos:Int),.slice a3 D.nm.length k3,.slice a4 D.cl.length k4,.bool D.clash]:=y6.store 6 _
 have n7:=ownsRow_setCell_below (a:=⟨w.heap.size+1,6,none⟩) n6 (by show w.heap.size+1<w.heap.size+2;omega) (.bool D.clash)
 have l7:=ownsRow_setCell_below (a:=⟨w.heap.size+1,6,none⟩) l6 (by show w.heap.size+1<w.heap.size+2;omega) (.bool D.clash)
 have b7:=Below.setCell b6 (p:=⟨w.heap.size+1,6,none⟩) (by show w.heap.size≤w.heap.size+1;omega) (.bool D.clash)
 obtain⟨WF,hWF⟩:∃ WF,(((((((w6.setCell ⟨w.heap.size+1,0,none⟩ (.int .i64 2)).setCell ⟨w.heap.size+1,1,none⟩ (.string key)).setCell ⟨w.heap.size+1,2,none⟩ (.string D.tb)).setCell ⟨w.heap.size+1,3,none⟩ (.int .i64 (D.pos:Int))).setCell ⟨w.heap.size+1,4,none⟩ (.slice a3 D.nm.length k3)).setCell ⟨w.heap.size+1,5,none⟩ (.slice a4 D.cl.length k4)).setCell ⟨w.heap.size+1,6,none⟩ (.bool D.clash))=WF:=⟨_,rfl⟩
 rw [hWF] at y7 n7 l7 b7
 have Hy:=Lib.hid y7
 have Hn:=Lib.hid n7
 have Hl:=Lib.hid l7
 have Hbf:=Lib.hid b7
 clear y0 y1 y2 y3 y4 y5 y6 y7 n0 n1 n2 n3 n4 n5 n6 n7 l0 l1 l2 l3 l4 l5 l6 l7 b0 b1 b2 b3 b4 b5 b6 b7
 clear q6 n6 l6 hb06
 go_wp2
 all_goals
  refine bodyPost_ret (results_tct _ _ (g:=w.heap.size+1) (t:=34) rfl rfl Hy.out Tryz.underlying34 rfl (by kernel_rfl)) rfl ⟨_,_,rfl,?_,?_,?_⟩
  · exact ownsRow_weak (W:=WF) Hn.out (by omega)
  · exact ownsRow_weak (W:=WF) Hl.out (by omega)
  · exact Hbf.out
theorem oracleOpen_real [Sha.Words] (o:Orc) (hg:o.Good) (hm:o.m=1) (nv cv:Value) (lb c:ByteArray) (hlb:lb.size=16) (hc:c.size=40) (w:World) (hR:Sha.RoundIn w) (hN:NmAt w 0 nv o.d.nm) (hC:ClAt w 0 cv o.d.cl):
 Calls Tryz.prog 49 #[.agg (Orc.vals 1 o.key o.d.tb o.d.pos nv cv o.d.clash),.string lb,.string c] w fun x w'=>x= .returned (.tuple #[.string (o.wayO lb c).1,.int .i64 (o.wayO lb c).2])∧Below w.heap.size w w':=by
 have hRt:=fun w1 (hb:Below w.heap.size w w1)=>oracleRight_any 1 (.inl rfl) o.key hg.key o.d hg.d nv cv w1 (owns_below hN hb) (owns_below hC hb)
 have hWy:=fun w1=>way_real o.key o.d.tb o.d.pos nv cv o.d.clash w1
 have hK:=fun w1 (hb:Below w.heap.size w w1)=>keyedO_any o hg hm nv cv lb c hlb (by omega) w1 (hR.below hb)
 obtain⟨na,nk,rfl⟩:=slice_of hN
 obtain⟨ca,ck,rfl⟩:=slice_of hC
 generalize o.wayO lb c=R at*
 obtain⟨R1,R2⟩:=R
 obtain⟨m,key,d⟩:=o
 dsimp only at*
 subst hm
 clear hg hN hC
 unfold Orc.vals at*
 have p0:Row (w.alloc (.cells #[.int .i64 1,.string key,.string d.tb,.int .i64 (d.pos:Int),.slice na d.nm.length nk,.slice ca d.cl.length ck,.bool d.clash] 34)) w.heap.size 34 #[.int .i64 1,.string key,.string d.tb,.int .i64 (d.pos:Int),.slice na d.nm.length nk,.slice ca d.cl.length ck,.bool d.clash]:=Row.new w _ _
 have hb0:Below w.heap.size w (w.alloc (.cells #[.int .i64 1,.string key,.string d.tb,.int .i64 (d.pos:Int),.slice na d.nm.length nk,.slice ca d.cl.length ck,.bool d.clash] 34)):=(Below.refl _ w).alloc (Nat.le_refl _) _
 have HRt:=Lib.hid hRt
 have s1:(lb.size:Int)=16:=by omega
 have s2:(c.size:Int)=40:=by omega
 have HWy:=Lib.hid hWy
 have HK:=Lib.hid hK
 have hme:=meth_keyed_open
 clear hRt hlb hc hWy hK hR
 go_enter Tryz.func49,Tryz.ntmps49
 go_wp2_with fail
 refine(HRt.out _ hb0).mono ?_
 rintro x w2 ⟨rfl,hb2⟩
 have hb02:Below w.heap.size w w2:=hb0.trans (hb2.mono hb0.size)
 have p2:=p0.below hb2 p0.lt
 clear p0 hb0 hb2 HRt
 have c0:w2.cell? ⟨w.heap.size,0,none⟩=some (.int .i64 1):=p2.cell 0
 have c1:w2.cell? ⟨w.heap.size,1,none⟩=some (.string key):=p2.cell 1
 have c2:w2.cell? ⟨w.heap.size,2,none⟩=some (.string d.tb):=p2.cell 2
 have c3:w2.cell? ⟨w.heap.size,3,none⟩=some (.int .i64 (d.pos:Int)):=p2.cell 3
 have c4:w2.cell? ⟨w.heap.size,4,none⟩=some (.slice na d.nm.length nk):=p2.cell 4
 have c5:w2.cell? ⟨w.heap.size,5,none⟩=some (.slice ca d.cl.length ck):=p2.cell 5
 have c6:w2.cell? ⟨w.heap.size,6,none⟩=some (.bool d.clash):=p2.cell 6
 go_wp2_with fail
 refine(HWy.out _).mono ?_
 rintro x w3 ⟨rfl,hb3⟩
 have hb03:Below w.heap.size w w3:=hb02.trans (hb3.mono hb02.size)
 clear p2 c0 c1 c2 c3 c4 c5 c6 hb02 hb3 HWy
 go_wp2_with fail
 refine(HK.out _ hb03).mono ?_
 rintro x w4 ⟨rfl,hb4⟩
 have Hb4:=Lib.hid (hb03.trans (hb4.mono hb03.size))
 clear hb03 hb4 HK
 go_wp2
 go_ret2
 exact⟨rfl,Hb4.out⟩
theorem oracleOpen_drawn [Sha.Words] (o:Orc) (hg:o.Good) (hm:o.m=2) (nv cv:Value) (lb c:ByteArray) (hlb:lb.size=16) (hc:c.size=40) (w:World) (hN:NmAt w 0 nv o.d.nm) (hC:ClAt w 0 cv o.d.cl):
 Calls Tryz.prog 49 #[.agg (Orc.vals 2 o.key o.d.tb o.d.pos nv cv o.d.clash),.string lb,.string c] w fun x w'=>x= .returned (.tuple #[.string (o.wayO lb c).1,.int .i64 (o.wayO lb c).2])∧Below w.heap.size w w':=by
 have hRt:=fun w1 (hb:Below w.heap.size w w1)=>oracleRight_any 2 (.inr rfl) o.key hg.key o.d hg.d nv cv w1 (owns_below hN hb) (owns_below hC hb)
 have hWy:=fun w1=>way_drawn o.key o.d.tb o.d.pos nv cv o.d.clash w1
 have hK:=fun w1 (hb:Below w.heap.size w w1)=>drawnO_any o hg hm nv cv lb c w1 (owns_below hN hb) (owns_below hC hb)
 obtain⟨na,nk,rfl⟩:=slice_of hN
 obtain⟨ca,ck,rfl⟩:=slice_of hC
 generalize o.wayO lb c=R at*
 obtain⟨R1,R2⟩:=R
 obtain⟨m,key,d⟩:=o
 dsimp only at*
 subst hm
 clear hg hN hC
 unfold Orc.vals at*
 have p0:Row (w.alloc (.cells #[.int .i64 2,.string key,.string d.tb,.int .i64 (d.pos:Int),.slice na d.nm.length nk,.slice ca d.cl.length ck,.bool d.clash] 34)) w.heap.size 34 #[.int .i64 2,.string key,.string d.tb,.int .i64 (d.pos:Int),.slice na d.nm.length nk,.slice ca d.cl.length ck,.bool d.clash]:=Row.new w _ _
 have hb0:Below w.heap.size w (w.alloc (.cells #[.int .i64 2,.string key,.string d.tb,.int .i64 (d.pos:Int),.slice na d.nm.length nk,.slice ca d.cl.length ck,.bool d.clash] 34)):=(Below.refl _ w).alloc (Nat.le_refl _) _
 have HRt:=Lib.hid hRt
 have s1:(lb.size:Int)=16:=by omega
 have s2:(c.size:Int)=40:=by omega
 have HWy:=Lib.hid hWy
 have HK:=Lib.hid hK
 have hme:=meth_drawn_open
 clear hRt hlb hc hWy hK
 go_enter Tryz.func49,Tryz.ntmps49
 go_wp2_with fail
 refine(HRt.out _ hb0).mono ?_
 rintro x w2 ⟨rfl,hb2⟩
 have hb02:Below w.heap.size w w2:=hb0.trans (hb2.mono hb0.size)
 have p2:=p0.below hb2 p0.lt
 clear p0 hb0 hb2 HRt
 have c0:w2.cell? ⟨w.heap.size,0,none⟩=some (.int .i64 2):=p2.cell 0
 have c1:w2.cell? ⟨w.heap.size,1,none⟩=some (.string key):=p2.cell 1
 have c2:w2.cell? ⟨w.heap.size,2,none⟩=some (.string d.tb):=p2.cell 2
 have c3:w2.cell? ⟨w.heap.size,3,none⟩=some (.int .i64 (d.pos:Int)):=p2.cell 3
 have c4:w2.cell? ⟨w.heap.size,4,none⟩=some (.slice na d.nm.length nk):=p2.cell 4
 have c5:w2.cell? ⟨w.heap.size,5,none⟩=some (.slice ca d.cl.length ck):=p2.cell 5
 have c6:w2.cell? ⟨w.heap.size,6,none⟩=some (.bool d.clash):=p2.cell 6
 go_wp2_with fail
 refine(HWy.out _).mono ?_
 rintro x w3 ⟨rfl,hb3⟩
 have hb03:Below w.heap.size w w3:=hb02.trans (hb3.mono hb02.size)
 clear p2 c0 c1 c2 c3 c4 c5 c6 hb02 hb3 HWy
 go_wp2_with fail
 refine(HK.out _ hb03).mono ?_
 rintro x w4 ⟨rfl,hb4⟩
 have Hb4:=Lib.hid (hb03.trans (hb4.mono hb03.size))
 clear hb03 hb4 HK
 go_wp2
 go_ret2
 exact⟨rfl,Hb4.out⟩
end Go.Proofs.YtpnbkfboneabaaaGreat
