import Derived.Test.YtpnbkfboneabaaaGreatIC
import Derived.Test.YtpnbkfboneabaaaGreatSeaLK
import Derived.Test.YtpnbkfboneabaaaGreatID
set_option maxRecDepth 100000
set_option maxHeartbeats 4000000
namespace Go.Proofs.YtpnbkfboneabaaaGreat
open Go.RowKit
def Orc.vals (m:Int) (key tb:ByteArray) (p:Nat) (nv cv:Value) (b:Bool):Array Value:=#[.int .i64 m,.string key,.string tb,.int .i64 (p:Int),nv,cv,.bool b]
theorem oracleRight_any (m:Int) (hm:m=1∨m=2) (key:ByteArray) (hk:key.size=32) (d:Idl) (hg:d.Good) (nv cv:Value) (w:World) (hN:NmAt w 0 nv d.nm) (hC:ClAt w 0 cv d.cl):
 Calls Tryz.prog 42 #[.agg (Orc.vals m key d.tb d.pos nv cv d.clash)] w fun e w'=>e= .returned (.bool true)∧Below w.heap.size w w':=by
 have hb0:Below w.heap.size w (w.alloc (.cells (Orc.vals m key d.tb d.pos nv cv d.clash) 34)):=(Below.refl _ w).alloc (Nat.le_refl _) _
 have hR:=idealRight_any d hg nv cv (w.alloc (.cells (Orc.vals m key d.tb d.pos nv cv d.clash) 34)) (owns_below hN hb0) (owns_below hC hb0)
 have ik:(key.size:Int)=32:=by omega
 have HR:=Lib.hid hR
 have Hb0:=Lib.hid hb0
 unfold Orc.vals Idl.vals at*
 clear hR hb0 hN hC
 rcases hm with rfl | rfl
 all_goals
  go_enter Tryz.func42,Tryz.ntmps42
  go_wp2_with fail
  refine HR.out.mono ?_
  rintro e w1 ⟨rfl,hb1⟩
  have Hb1:=Lib.hid (Hb0.out.trans (hb1.mono Hb0.out.size))
  clear hb1
  go_wp2
  go_ret
  exact⟨rfl,Hb1.out⟩
def OwnAt9 (w:World) (h:Nat) (m:Int) (key tb:ByteArray) (p:Nat) (b:Bool) (d:Idl) (wx:World):Prop:=
 ∃ nv' cv',Row wx h 34 #[.int .i64 m,.string key,.string tb,.int .i64 (p:Int),nv',cv',.bool b]∧Row wx (h+1) 34 #[.int .i64 0,.string ⟨#[]⟩,.string ⟨#[]⟩,.int .i64 0,.slice none 0 0,.slice none 0 0,.bool false]∧NmAt wx (h+2) nv' d.nm∧ClAt wx (h+2) cv' d.cl∧Below h w wx
theorem ownOra_any (m:Int) (key tb:ByteArray) (p:Nat) (nv cv:Value) (b:Bool) (d:Idl) (hn:d.nm.length≤100000) (hc:d.cl.length≤100000) (w:World) (hN:NmAt w 0 nv d.nm) (hC:ClAt w 0 cv d.cl):
 Calls Tryz.prog 113 #[.agg (Orc.vals m key tb p nv cv b)] w fun e w'=>∃ nv' cv',e= .returned (.agg (Orc.vals m key tb p nv' cv' b))∧NmAt w' w.heap.size nv' d.nm∧ClAt w' w.heap.size cv' d.cl∧Below w.heap.size w w':=by
 unfold Orc.vals
 obtain⟨p0,q0,hb0,hz0⟩:=box2 w #[.int .i64 m,.string key,.string tb,.int .i64 (p:Int),nv,cv,.bool b] #[.int .i64 0,.string ⟨#[]⟩,.string ⟨#[]⟩,.int .i64 0,.slice none 0 0,.slice none 0 0,.bool false] 34 34
 have hCn:=fun w1 (hb:Below w.heap.size w w1)=>cloneNm_any d.nm nv w1 (owns_below hN hb) hn
 have hCc:=fun w1 (hb:Below w.heap.size w w1)=>cloneCl_any d.cl cv w1 (owns_below hC hb) hc
 have HCn:=Lib.hid hCn
 have HCc:=Lib.hid hCc
 clear hCn hCc hN hC
 go_enter Tryz.func113,Tryz.ntmps113
 go_upto_region 1 with fail
 obtain⟨W0,hW0⟩:∃ W0,(w.alloc (.cells #[.int .i64 m,.string key,.string tb,.int .i64 (p:Int),nv,cv,.bool b] 34)).alloc (.cells #[.int .i64 0,.string ⟨#[]⟩,.string ⟨#[]⟩,.int .i64 0,.slice none 0 0,.slice none 0 0,.bool false] 34)=W0:=⟨_,rfl⟩
 rw [hW0] at p0 q0 hb0 hz0 ⊢
 clear hW0
 have hbd:Below w.heap.size w W0.drew:=hb0.drew
 have hpd:Row W0.drew w.heap.size 34 #[.int .i64 m,.string key,.string tb,.int .i64 (p:Int),nv,cv,.bool b]:=p0.drew
 have hqd:Row W0.drew (w.heap.size+1) 34 #[.int .i64 0,.string ⟨#[]⟩,.string ⟨#[]⟩,.int .i64 0,.slice none 0 0,.slice none 0 0,.bool false]:=q0.drew
 have c2:W0.cell? ⟨w.heap.size,4,none⟩=some nv:=p0.cell 4
 have c3:W0.cell? ⟨w.heap.size,5,none⟩=some cv:=p0.cell 5
 have f2:=p0.frozen 4
 have f3:=p0.frozen 5
 go_cut [2] from 3 to 14 (fun v wx=>v= .pointer (some ⟨w.heap.size+1,0,none⟩)∧OwnAt9 w w.heap.size m key tb p b d wx)
 case first=>
  have hmix:Tryz.prog.follows .mixedOrders=true:=by kernel_rfl
  go_region_with (first
   | (go_at_call 75
      first
       | (refine(HCn.out _ hbd).mono ?_;rintro e wa ⟨v1,rfl,hn1,hb1⟩;obtain⟨a1,k1,rfl⟩:=slice_of hn1
          have hbA:Below w.heap.size w wa:=hbd.trans (hb1.mono hbd.size)
          have hpA:=hpd.below hb1 hpd.lt
          have hqA:=hqd.below hb1 hqd.lt
          have a2:wa.cell? ⟨w.heap.size,4,none⟩=some nv:=hpA.cell 4
          have a3:wa.cell? ⟨w.heap.size,5,none⟩=some cv:=hpA.cell 5
          have af2:=hpA.frozen 4
          have af3:=hpA.frozen 5)
       | (refine(HCn.out _ hbB).mono ?_;rintro e wa ⟨v1,rfl,hn1,hb1⟩;obtain⟨a1,k1,rfl⟩:=slice_of hn1
          have hbA:Below w.heap.size w wa:=hbB.trans (hb1.mono hbB.size)
          have hpA:=hpB.below hb1 hpB.lt
          have hqA:=hqB.below hb1 hqB.lt
          have hcA:=owns_below hcB hb1
          have a2:wa.cell? ⟨w.heap.size,4,none⟩=some nv:=hpA.cell 4
          have a3:wa.cell? ⟨w.heap.size,5,none⟩=some cv:=hpA.cell 5
          have af2:=hpA.frozen 4
          have af3:=hpA.frozen 5))
   | (go_at_call 76
      first
       | (refine(HCc.out _ hbd).mono ?_;rintro e wb ⟨v2,rfl,hcB,hb2⟩;obtain⟨a2',k2,rfl⟩:=slice_of hcB
          have hbB:Below w.heap.size w wb:=hbd.trans (hb2.mono hbd.size)
          have hpB:=hpd.below hb2 hpd.lt
          have hqB:=hqd.below hb2 hqd.lt
          have b2:wb.cell? ⟨w.heap.size,4,none⟩=some nv:=hpB.cell 4
          have b3:wb.cell? ⟨w.heap.size,5,none⟩=some cv:=hpB.cell 5
          have bf2:=hpB.frozen 4
          have bf3:=hpB.frozen 5)
       | (refine(HCc.out _ hbA).mono ?_;rintro e wb ⟨v2,rfl,hcB,hb2⟩;obtain⟨a2',k2,rfl⟩:=slice_of hcB
          have hbB:Below w.heap.size w wb:=hbA.trans (hb2.mono hbA.size)
          have hpB:=hpA.below hb2 hpA.lt
          have hqB:=hqA.below hb2 hqA.lt
          have hnB:=owns_below hn1 hb2
          have b2:wb.cell? ⟨w.heap.size,4,none⟩=some nv:=hpB.cell 4
          have b3:wb.cell? ⟨w.heap.size,5,none⟩=some cv:=hpB.cell 5
          have bf2:=hpB.frozen 4
          have bf3:=hpB.frozen 5)))
  all_goals
   go_wp2
   go_meet
   refine⟨rfl,_,_,(hpB.store 4 _).store 5 _,(hqB.other (a:=⟨w.heap.size,4,none⟩) (by simp) _).other (a:=⟨w.heap.size,5,none⟩) (by simp) _,?_,?_,(hbB.setCell (p:=⟨w.heap.size,4,none⟩) (Nat.le_refl _) _).setCell (p:=⟨w.heap.size,5,none⟩) (Nat.le_refl _) _⟩
   · exact ownsRow_weak (ownsRow_setCell_below (a:=⟨w.heap.size,5,none⟩) (ownsRow_setCell_below (a:=⟨w.heap.size,4,none⟩) hnB (by show w.heap.size<W0.heap.size;omega) _) (by show w.heap.size<W0.heap.size;omega) _) (by show w.heap.size+2≤W0.heap.size;omega)
   · have hwa2:w.heap.size+2≤wa.heap.size:=by have:=hqA.lt;omega
     have hwa:w.heap.size<wa.heap.size:=hpA.lt
     exact ownsRow_weak (ownsRow_setCell_below (a:=⟨w.heap.size,5,none⟩) (ownsRow_setCell_below (a:=⟨w.heap.size,4,none⟩) hcB (by show w.heap.size<wa.heap.size;exact hwa) _) (by show w.heap.size<wa.heap.size;exact hwa) _) hwa2
 case rest=>
  obtain⟨rfl,nv',cv',hp,hq,hn',hc',hb'⟩:=hcut
  obtain⟨a1,k1,rfl⟩:=slice_of hn'
  obtain⟨a2,k2,rfl⟩:=slice_of hc'
  clear c2 c3 f2 f3 hbd hpd hqd p0 q0 hb0 hz0 HCn HCc
  have c0:=hp.cell 0
  change World.cell? _ _=some _ at c0
  have c1:=hp.cell 1
  change World.cell? _ _=some _ at c1
  have c2:=hp.cell 2
  change World.cell? _ _=some _ at c2
  have c3:=hp.cell 3
  change World.cell? _ _=some _ at c3
  have c4:=hp.cell 4
  change World.cell? _ _=some _ at c4
  have c5:=hp.cell 5
  change World.cell? _ _=some _ at c5
  have c6:=hp.cell 6
  change World.cell? _ _=some _ at c6
  have e0:=hq.cell 0
  change World.cell? _ _=some _ at e0
  have e1:=hq.cell 1
  change World.cell? _ _=some _ at e1
  have e2:=hq.cell 2
  change World.cell? _ _=some _ at e2
  have e3:=hq.cell 3
  change World.cell? _ _=some _ at e3
  have e4:=hq.cell 4
  change World.cell? _ _=some _ at e4
  have e5:=hq.cell 5
  change World.cell? _ _=some _ at e5
  have e6:=hq.cell 6
  change World.cell? _ _=some _ at e6
  have f0:=hq.frozen 0
  have f1:=hq.frozen 1
  have f2:=hq.frozen 2
  have f3:=hq.frozen 3
  have f4:=hq.frozen 4
  have f5:=hq.frozen 5
  have f6:=hq.frozen 6
  have Hq:=Lib.hid hq
  have Hn':=Lib.hid hn'
  have Hc':=Lib.hid hc'
  have Hb':=Lib.hid hb'
  clear hp hq hn' hc' hb'
  go_wp2
  refine bodyPost_ret (results_cell_row rfl _ _ (w.heap.size+1) 34 #[.int .i64 m,.string key,.string tb,.int .i64 (p:Int),.slice a1 d.nm.length k1,.slice a2 d.cl.length k2,.bool b] (0,0) _ rfl (((((((Hq.out.store 0 _).store 1 _).store 2 _).store 3 _).store 4 _).store 5 _).store 6 _) Tryz.underlying34 rfl (by kernel_rfl)) rfl ⟨_,_,rfl,?_,?_,?_⟩
  · exact ownsRow_weak (ownsRow_setCell_below (a:=⟨w.heap.size+1,6,none⟩) (ownsRow_setCell_below (a:=⟨w.heap.size+1,5,none⟩) (ownsRow_setCell_below (a:=⟨w.heap.size+1,4,none⟩) (ownsRow_setCell_below (a:=⟨w.heap.size+1,3,none⟩) (ownsRow_setCell_below (a:=⟨w.heap.size+1,2,none⟩) (ownsRow_setCell_below (a:=⟨w.heap.size+1,1,none⟩) (ownsRow_setCell_below (a:=⟨w.heap.size+1,0,none⟩) Hn'.out (Nat.lt_succ_self _) _) (Nat.lt_succ_self _) _) (Nat.lt_succ_self _) _) (Nat.lt_succ_self _) _) (Nat.lt_succ_self _) _) (Nat.lt_succ_self _) _) (Nat.lt_succ_self _) _) (by omega)
  · exact ownsRow_weak (ownsRow_setCell_below (a:=⟨w.heap.size+1,6,none⟩) (ownsRow_setCell_below (a:=⟨w.heap.size+1,5,none⟩) (ownsRow_setCell_below (a:=⟨w.heap.size+1,4,none⟩) (ownsRow_setCell_below (a:=⟨w.heap.size+1,3,none⟩) (ownsRow_setCell_below (a:=⟨w.heap.size+1,2,none⟩) (ownsRow_setCell_below (a:=⟨w.heap.size+1,1,none⟩) (ownsRow_setCell_below (a:=⟨w.heap.size+1,0,none⟩) Hc'.out (Nat.lt_succ_self _) _) (Nat.lt_succ_self _) _) (Nat.lt_succ_self _) _) (Nat.lt_succ_self _) _) (Nat.lt_succ_self _) _) (Nat.lt_succ_self _) _) (Nat.lt_succ_self _) _) (by omega)
  · exact(Below.setCell (Below.setCell (Below.setCell (Below.setCell (Below.setCell (Below.setCell (Below.setCell Hb'.out (p:=⟨w.heap.size+1,0,none⟩) (Nat.le_succ _) _) (p:=⟨w.heap.size+1,1,none⟩) (Nat.le_succ _) _) (p:=⟨w.heap.size+1,2,none⟩) (Nat.le_succ _) _) (p:=⟨w.heap.size+1,3,none⟩) (Nat.le_succ _) _) (p:=⟨w.heap.size+1,4,none⟩) (Nat.le_succ _) _) (p:=⟨w.heap.size+1,5,none⟩) (Nat.le_succ _) _) (p:=⟨w.heap.size+1,6,none⟩) (Nat.le_succ _) _)
theorem way_real (key tb:ByteArray) (p:Nat) (nv cv:Value) (b:Bool) (w:World):
 Calls Tryz.prog 82 #[.agg (Orc.vals 1 key tb p nv cv b)] w fun e w'=>e= .returned (.iface 174 (.agg (Orc.vals 1 key tb p nv cv b)))∧Below w.heap.size w w':=by
 have hb0:Below w.heap.size w (w.alloc (.cells (Orc.vals 1 key tb p nv cv b) 34)):=(Below.refl _ w).alloc (Nat.le_refl _) _
 unfold Orc.vals at*
 go_enter Tryz.func82,Tryz.ntmps82
 go_wp2
 go_ret
 exact⟨rfl,hb0⟩
theorem way_drawn (key tb:ByteArray) (p:Nat) (nv cv:Value) (b:Bool) (w:World):
 Calls Tryz.prog 82 #[.agg (Orc.vals 2 key tb p nv cv b)] w fun e w'=>e= .returned (.iface 175 (.agg (Orc.vals 2 key tb p nv cv b)))∧Below w.heap.size w w':=by
 have hb0:Below w.heap.size w (w.alloc (.cells (Orc.vals 2 key tb p nv cv b) 34)):=(Below.refl _ w).alloc (Nat.le_refl _) _
 unfold Orc.vals at*
 go_enter Tryz.func82,Tryz.ntmps82
 go_wp2
 go_ret
 exact⟨rfl,hb0⟩
theorem told_ok (m:Int) (key tb:ByteArray) (p:Nat) (nv cv:Value) (b:Bool) (s tb':ByteArray) (p':Nat) (nv' cv':Value) (b':Bool) (d:Idl) (hn:d.nm.length≤100000) (hc:d.cl.length≤100000) (w:World) (hN:NmAt w 0 nv' d.nm) (hC:ClAt w 0 cv' d.cl):
 Calls Tryz.prog 114 #[.agg (Orc.vals m key tb p nv cv b),.string s,.agg (Idl.vals tb' p' nv' cv' b'),.int .i64 0] w fun e w'=>∃ nv2 cv2,e= .returned (.tuple #[.string s,.agg (Orc.vals m key tb' p' nv2 cv2 b'),.int .i64 0])∧NmAt w' w.heap.size nv2 d.nm∧ClAt w' w.heap.size cv2 d.cl∧Below w.heap.size w w':=by
 have hOw:=fun w1 (hb:Below w.heap.size w w1)=>ownOra_any m key tb' p' nv' cv' b' d hn hc w1 (owns_below hN hb) (owns_below hC hb)
 obtain⟨na,nk,rfl⟩:=slice_of hN
 obtain⟨ca,ck,rfl⟩:=slice_of hC
 unfold Orc.vals Idl.vals at*
 obtain⟨p0,q0,r0,hb0,hz0⟩:=box3 w #[.int .i64 m,.string key,.string tb',.int .i64 (p':Int),.slice na d.nm.length nk,.slice ca d.cl.length ck,.bool b'] #[.string tb',.int .i64 (p':Int),.slice na d.nm.length nk,.slice ca d.cl.length ck,.bool b'] #[.int .i64 0,.string ⟨#[]⟩,.string ⟨#[]⟩,.int .i64 0,.slice none 0 0,.slice none 0 0,.bool false] 34 32 34
 have HOw:=Lib.hid hOw
 clear hOw hN hC
 go_enter Tryz.func114,Tryz.ntmps114
 go_wp2_with fail
 refine(HOw.out _ hb0).mono ?_
 rintro e w1 ⟨nv2,cv2,rfl,hn2,hc2,hb1⟩
 obtain⟨a2,k2,rfl⟩:=slice_of hn2
 obtain⟨a3,k3,rfl⟩:=slice_of hc2
 have r1:Row w1 (w.heap.size+1+1) 34 #[.int .i64 0,.string ⟨#[]⟩,.string ⟨#[]⟩,.int .i64 0,.slice none 0 0,.slice none 0 0,.bool false]:=r0.below hb1 r0.lt
 have hbx:Below w.heap.size w w1:=hb0.trans (hb1.mono hb0.size)
 rw [hz0] at hn2 hc2
 have e0:w1.cell? ⟨w.heap.size+1+1,0,none⟩=some (.int .i64 0):=r1.cell 0
 have f0:=r1.frozen 0
 have e1:w1.cell? ⟨w.heap.size+1+1,1,none⟩=some (.string ⟨#[]⟩):=r1.cell 1
 have f1:=r1.frozen 1
 have e2:w1.cell? ⟨w.heap.size+1+1,2,none⟩=some (.string ⟨#[]⟩):=r1.cell 2
 have f2:=r1.frozen 2
 have e3:w1.cell? ⟨w.heap.size+1+1,3,none⟩=some (.int .i64 0):=r1.cell 3
 have f3:=r1.frozen 3
 have e4:w1.cell? ⟨w.heap.size+1+1,4,none⟩=some (.slice none 0 0):=r1.cell 4
 have f4:=r1.frozen 4
 have e5:w1.cell? ⟨w.heap.size+1+1,5,none⟩=some (.slice none 0 0):=r1.cell 5
 have f5:=r1.frozen 5
 have e6:w1.cell? ⟨w.heap.size+1+1,6,none⟩=some (.bool false):=r1.cell 6
 have f6:=r1.frozen 6
 clear hb0 hb1 p0 q0 r0
 have y0:Row w1 (w.heap.size+1+1) 34 #[.int .i64 0,.string ⟨#[]⟩,.string ⟨#[]⟩,.int .i64 0,.slice none 0 0,.slice none 0 0,.bool false]:=r1
 have n0:=hn2
 have l0:=hc2
 have b0:=hbx
 have y1:Row (w1.setCell ⟨w.heap.size+1+1,0,none⟩ (.int .i64 m)) (w.heap.size+1+1) 34 #[.int .i64 m,.string ⟨#[]⟩,.string ⟨#[]⟩,.int .i64 0,.slice none 0 0,.slice none 0 0,.bool false]:=y0.store 0 _
 have n1:=ownsRow_setCell_below (a:=⟨w.heap.size+1+1,0,none⟩) n0 (by show w.heap.size+1+1<w.heap.size+3;omega) (.int .i64 m)
 have l1:=ownsRow_setCell_below (a:=⟨w.heap.size+1+1,0,none⟩) l0 (by show w.heap.size+1+1<w.heap.size+3;omega) (.int .i64 m)
 have b1:=Below.setCell b0 (p:=⟨w.heap.size+1+1,0,none⟩) (by show w.heap.size≤w.heap.size+1+1;omega) (.int .i64 m)
 have y2:Row ((w1.setCell ⟨w.heap.size+1+1,0,none⟩ (.int .i64 m)).setCell ⟨w.heap.size+1+1,1,none⟩ (.string key)) (w.heap.size+1+1) 34 #[.int .i64 m,.string key,.string ⟨#[]⟩,.int .i64 0,.slice none 0 0,.slice none 0 0,.bool false]:=y1.store 1 _
 have n2:=ownsRow_setCell_below (a:=⟨w.heap.size+1+1,1,none⟩) n1 (by show w.heap.size+1+1<w.heap.size+3;omega) (.string key)
 have l2:=ownsRow_setCell_below (a:=⟨w.heap.size+1+1,1,none⟩) l1 (by show w.heap.size+1+1<w.heap.size+3;omega) (.string key)
 have b2:=Below.setCell b1 (p:=⟨w.heap.size+1+1,1,none⟩) (by show w.heap.size≤w.heap.size+1+1;omega) (.string key)
 have y3:Row (((w1.setCell ⟨w.heap.size+1+1,0,none⟩ (.int .i64 m)).setCell ⟨w.heap.size+1+1,1,none⟩ (.string key)).setCell ⟨w.heap.size+1+1,2,none⟩ (.string tb')) (w.heap.size+1+1) 34 #[.int .i64 m,.string key,.string tb',.int .i64 0,.slice none 0 0,.slice none 0 0,.bool false]:=y2.store 2 _
 have n3:=ownsRow_setCell_below (a:=⟨w.heap.size+1+1,2,none⟩) n2 (by show w.heap.size+1+1<w.heap.size+3;omega) (.string tb')
 have l3:=ownsRow_setCell_below (a:=⟨w.heap.size+1+1,2,none⟩) l2 (by show w.heap.size+1+1<w.heap.size+3;omega) (.string tb')
 have b3:=Below.setCell b2 (p:=⟨w.heap.size+1+1,2,none⟩) (by show w.heap.size≤w.heap.size+1+1;omega) (.string tb')
 have y4:Row ((((w1.setCell ⟨w.heap.size+1+1,0,none⟩ (.int .i64 m)).setCell ⟨w.heap.size+1+1,1,none⟩ (.string key)).setCell ⟨w.heap.size+1+1,2,none⟩ (.string tb')).setCell ⟨w.heap.size+1+1,3,none⟩ (.int .i64 (p':Int))) (w.heap.size+1+1) 34 #[.int .i64 m,.string key,.string tb',.int .i64 (p':Int),.slice none 0 0,.slice none 0 0,.bool false]:=y3.store 3 _
 have n4:=ownsRow_setCell_below (a:=⟨w.heap.size+1+1,3,none⟩) n3 (by show w.heap.size+1+1<w.heap.size+3;omega) (.int .i64 (p':Int))
 have l4:=ownsRow_setCell_below (a:=⟨w.heap.size+1+1,3,none⟩) l3 (by show w.heap.size+1+1<w.heap.size+3;omega) (.int .i64 (p':Int))
 have b4:=Below.setCell b3 (p:=⟨w.heap.size+1+1,3,none⟩) (by show w.heap.size≤w.heap.size+1+1;omega) (.int .i64 (p':Int))
 have y5:Row (((((w1.setCell ⟨w.heap.size+1+1,0,none⟩ (.int .i64 m)).setCell ⟨w.heap.size+1+1,1,none⟩ (.string key)).setCell ⟨w.heap.size+1+1,2,none⟩ (.string tb')).setCell ⟨w.heap.size+1+1,3,none⟩ (.int .i64 (p':Int))).setCell ⟨w.heap.size+1+1,4,none⟩ (.slice a2 d.nm.length k2)) (w.heap.size+1+1) 34 #[.int .i64 m,.string key,.string tb',.int .i64 (p':Int),.slice a2 d.nm.length k2,.slice none 0 0,.bool false]:=y4.store 4 _
 have n5:=ownsRow_setCell_below (a:=⟨w.heap.size+1+1,4,none⟩) n4 (by show w.heap.size+1+1<w.heap.size+3;omega) (.slice a2 d.nm.length k2)
 have l5:=ownsRow_setCell_below (a:=⟨w.heap.size+1+1,4,none⟩) l4 (by show w.heap.size+1+1<w.heap.size+3;omega) (.slice a2 d.nm.length k2)
 have b5:=Below.setCell b4 (p:=⟨w.heap.size+1+1,4,none⟩) (by show w.heap.size≤w.heap.size+1+1;omega) (.slice a2 d.nm.length k2)
 have y6:Row ((((((w1.setCell ⟨w.heap.size+1+1,0,none⟩ (.int .i64 m)).setCell ⟨w.heap.size+1+1,1,none⟩ (.string key)).setCell ⟨w.heap.size+1+1,2,none⟩ (.string tb')).setCell ⟨w.heap.size+1+1,3,none⟩ (.int .i64 (p':Int))).setCell ⟨w.heap.size+1+1,4,none⟩ (.slice a2 d.nm.length k2)).setCell ⟨w.heap.size+1+1,5,none⟩ (.slice a3 d.cl.length k3)) (w.heap.size+1+1) 34 #[.int .i64 m,.string key,.string tb',.int .i64 (p':Int),.slice a2 d.nm.length k2,.slice a3 d.cl.length k3,.bool false]:=y5.store 5 _
 have n6:=ownsRow_setCell_below (a:=⟨w.heap.size+1+1,5,none⟩) n5 (by show w.heap.size+1+1<w.heap.size+3;omega) (.slice a3 d.cl.length k3)
 have l6:=ownsRow_setCell_below (a:=⟨w.heap.size+1+1,5,none⟩) l5 (by show w.heap.size+1+1<w.heap.size+3;omega) (.slice a3 d.cl.length k3)
 have b6:=Below.setCell b5 (p:=⟨w.heap.size+1+1,5,none⟩) (by show w.heap.size≤w.heap.size+1+1;omega) (.slice a3 d.cl.length k3)
 have y7:Row (((((((w1.setCell ⟨w.heap.size+1+1,0,none⟩ (.int .i64 m)).setCell ⟨w.heap.size+1+1,1,none⟩ (.string key)).setCell ⟨w.heap.size+1+1,2,none⟩ (.string tb')).setCell ⟨w.heap.size+1+1,3,none⟩ (.int .i64 (p':Int))).setCell ⟨w.heap.size+1+1,4,none⟩ (.slice a2 d.nm.length k2)).setCell ⟨w.heap.size+1+1,5,none⟩ (.slice a3 d.cl.length k3)).setCell ⟨w.heap.size+1+1,6,none⟩ (.bool b')) (w.heap.size+1+1) 34 #[.int .i64 m,.string key,.string tb',.int .i64 (p':Int),.slice a2 d.nm.length k2,.slice a3 d.cl.length k3,.bool b']:=y6.store 6 _
 have n7:=ownsRow_setCell_below (a:=⟨w.heap.size+1+1,6,none⟩) n6 (by show w.heap.size+1+1<w.heap.size+3;omega) (.bool b')
 have l7:=ownsRow_setCell_below (a:=⟨w.heap.size+1+1,6,none⟩) l6 (by show w.heap.size+1+1<w.heap.size+3;omega) (.bool b')
 have b7:=Below.setCell b6 (p:=⟨w.heap.size+1+1,6,none⟩) (by show w.heap.size≤w.heap.size+1+1;omega) (.bool b')
 obtain⟨WF,hWF⟩:∃ WF,(((((((w1.setCell ⟨w.heap.size+1+1,0,none⟩ (.int .i64 m)).setCell ⟨w.heap.size+1+1,1,none⟩ (.string key)).setCell ⟨w.heap.size+1+1,2,none⟩ (.string tb')).setCell ⟨w.heap.size+1+1,3,none⟩ (.int .i64 (p':Int))).setCell ⟨w.heap.size+1+1,4,none⟩ (.slice a2 d.nm.length k2)).setCell ⟨w.heap.size+1+1,5,none⟩ (.slice a3 d.cl.length k3)).setCell ⟨w.heap.size+1+1,6,none⟩ (.bool b'))=WF:=⟨_,rfl⟩
 rw [hWF] at y7 n7 l7 b7
 have Hy:=Lib.hid y7
 have Hn:=Lib.hid n7
 have Hl:=Lib.hid l7
 have Hbf:=Lib.hid b7
 clear y0 y1 y2 y3 y4 y5 y6 y7 n0 n1 n2 n3 n4 n5 n6 n7 l0 l1 l2 l3 l4 l5 l6 l7 b0 b1 b2 b3 b4 b5 b6 b7
 clear r1 hn2 hc2 hbx
 go_wp2
 all_goals
  refine bodyPost_ret (results_tct _ _ (g:=w.heap.size+1+1) (t:=34) rfl rfl Hy.out Tryz.underlying34 rfl (by kernel_rfl)) rfl ⟨_,_,rfl,?_,?_,?_⟩
  · exact ownsRow_weak (W:=WF) Hn.out (by omega)
  · exact ownsRow_weak (W:=WF) Hl.out (by omega)
  · exact Hbf.out
theorem fed_any (key tb:ByteArray) (p:Nat) (a c:Option Addr) (n1 n2 k1 k2:Nat) (b:Bool) (s:ByteArray) (w:World):
 Calls Tryz.prog 197 #[.agg (Orc.vals 1 key tb p (.slice a n1 k1) (.slice c n2 k2) b),.string s] w fun e w'=>e= .returned (.agg (Idl.vals s 0 (.slice a n1 k1) (.slice c n2 k2) b))∧Below w.heap.size w w':=by
 unfold Orc.vals Idl.vals at*
 go_enter Tryz.func197,Tryz.ntmps197
 go_wp2
 obtain⟨_,q0,_,hb0,_⟩:=box3 w #[.int .i64 1,.string key,.string tb,.int .i64 (p:Int),(.slice a n1 k1),(.slice c n2 k2),.bool b] #[.string s,.int .i64 0,(.slice a n1 k1),(.slice c n2 k2),.bool b] #[.string s,.int .i64 0,(.slice a n1 k1),(.slice c n2 k2),.bool b] 174 32 32
 exact bodyPost_ret (results_cell_row rfl _ _ (w.heap.size+1) 32 _ (0,0) _ rfl q0 Tryz.underlying32 rfl (by kernel_rfl)) rfl ⟨rfl,hb0⟩
theorem back_any (key tb:ByteArray) (p:Nat) (nv cv:Value) (b:Bool) (tb':ByteArray) (p':Nat) (a c:Option Addr) (n1 n2 k1 k2:Nat) (b':Bool) (w:World):
 Calls Tryz.prog 198 #[.agg (Orc.vals 1 key tb p nv cv b),.agg (Idl.vals tb' p' (.slice a n1 k1) (.slice c n2 k2) b')] w fun e w'=>e= .returned (.agg (Idl.vals tb p (.slice a n1 k1) (.slice c n2 k2) b'))∧Below w.heap.size w w':=by
 unfold Orc.vals Idl.vals at*
 go_enter Tryz.func198,Tryz.ntmps198
 go_wp2
 obtain⟨_,_,q0,hb0,_⟩:=box3 w #[.int .i64 1,.string key,.string tb,.int .i64 (p:Int),nv,cv,.bool b] #[.string tb,.int .i64 (p:Int),(.slice a n1 k1),(.slice c n2 k2),.bool b'] #[.string tb,.int .i64 (p:Int),(.slice a n1 k1),(.slice c n2 k2),.bool b'] 174 32 32
 exact bodyPost_ret (results_cell_row rfl _ _ (w.heap.size+2) 32 _ (0,0) _ rfl q0 Tryz.underlying32 rfl (by kernel_rfl)) rfl ⟨rfl,hb0⟩
theorem key_any [Sha.Words] (key tb:ByteArray) (p:Nat) (nv cv:Value) (b:Bool) (hk:key.size=32) (name:ByteArray) (hn:name.size≤100) (w:World) (hR:Sha.RoundIn w):
 Calls Tryz.prog 192 #[.agg (Orc.vals 1 key tb p nv cv b),.string name] w fun e w'=>e= .returned (.string (Mac.derive key name 32))∧Below w.heap.size w w':=by
 have hb0:Below w.heap.size w (w.alloc (.cells (Orc.vals 1 key tb p nv cv b) 174)):=(Below.refl _ w).alloc (Nat.le_refl _) _
 have hD:=Derive_any key name (by omega) (by omega) 32 (by omega) (w.alloc (.cells (Orc.vals 1 key tb p nv cv b) 174)) (hR.below hb0)
 have HD:=Lib.hid hD
 have Hb0:=Lib.hid hb0
 unfold Orc.vals at*
 clear hD hb0
 go_enter Tryz.func192,Tryz.ntmps192
 go_wp2_with fail
 refine HD.out.mono ?_
 rintro e w1 ⟨rfl,hb1⟩
 have Hb1:=Lib.hid (Hb0.out.trans ((hb1.toBelow fun _ h=>h).mono Hb0.out.size))
 clear hb1
 go_wp2
 go_ret
 exact⟨rfl,Hb1.out⟩
theorem Idl.label_short {d:Idl} {q:ByteArray} (h:q ∉ d.ins) (h1:d.nm.length≠2000) (h2:d.tb.size<d.pos+16):d.label q=(⟨#[]⟩,d,12):=by
 unfold Idl.label
 rw [Idl.label_none h]
 dsimp only
 rw [if_neg h1,if_pos (by omega)]
theorem Idl.in_ins {d:Idl} {q:ByteArray} (h:q∈d.ins):∃ s,(q,s)∈d.nm:=by
 unfold Idl.ins at h
 obtain⟨x,hx,rfl⟩:=List.mem_map.1 h
 exact⟨x.2,hx⟩
theorem Idl.in_made {d:Idl} {l t:ByteArray} (h:(l,t)∈d.made):∃ c,(l,t,c)∈d.cl:=by
 unfold Idl.made at h
 obtain⟨x,hx,hxe⟩:=List.mem_map.1 h
 injection hxe with h1 h2
 subst h1 h2
 exact⟨x.2.2,hx⟩
theorem Label_all (d:Idl) (hg:d.Good) (nv cv:Value) (q:ByteArray) (hq:q.size≤100) (hl:d.nm.length≠2000) (w:World) (hN:NmAt w 0 nv d.nm) (hC:ClAt w 0 cv d.cl):
 Calls Tryz.prog 201 #[.agg (Idl.vals d.tb d.pos nv cv d.clash),.string q] w fun e w'=>∃ nv' cv',e= .returned (.tuple #[.string (d.label q).1,.agg (Idl.vals (d.label q).2.1.tb (d.label q).2.1.pos nv' cv' (d.label q).2.1.clash),.int .i64 (d.label q).2.2])∧NmAt w' w.heap.size nv' (d.label q).2.1.nm∧ClAt w' w.heap.size cv' (d.label q).2.1.cl∧Below w.heap.size w w':=by
 by_cases hf:q∈d.ins
 · obtain⟨s,hs⟩:=Idl.in_ins hf
   rw [Idl.label_found hg hs]
   exact Label_found d hg nv cv q hq s hs w hN hC
 · by_cases hp:d.pos+16≤d.tb.size
   · rw [Idl.label_new hf hl hp]
     exact Label_new d hg nv cv q hq hf hl hp w hN hC
   · rw [Idl.label_short hf hl (by omega)]
     exact Label_short d hg nv cv q hq hf hl (by omega) w hN hC
theorem Cell_all (d:Idl) (hg:d.Good) (nv cv:Value) (lb tx:ByteArray) (hlb:lb.size=16) (htx:tx.size=24) (hl:d.cl.length≠2000) (hp:d.pos+40≤d.tb.size) (w:World) (hN:NmAt w 0 nv d.nm) (hC:ClAt w 0 cv d.cl):
 Calls Tryz.prog 196 #[.agg (Idl.vals d.tb d.pos nv cv d.clash),.string lb,.string tx] w fun e w'=>∃ nv' cv',e= .returned (.tuple #[.string (d.cell lb tx).1,.agg (Idl.vals (d.cell lb tx).2.1.tb (d.cell lb tx).2.1.pos nv' cv' (d.cell lb tx).2.1.clash),.int .i64 (d.cell lb tx).2.2])∧NmAt w' w.heap.size nv' (d.cell lb tx).2.1.nm∧ClAt w' w.heap.size cv' (d.cell lb tx).2.1.cl∧Below w.heap.size w w':=by
 by_cases hf:(lb,tx)∈d.made
 · obtain⟨c,hc⟩:=Idl.in_made hf
   rw [Idl.cell_found hg hc]
   exact Cell_found d hg nv cv lb tx hlb htx c hc w hN hC
 · rw [Idl.cell_new hf hl hp]
   exact Cell_new d hg nv cv lb tx hlb htx hf hl hp w hN hC
theorem Idl.label_good {d:Idl} (hg:d.Good) {q:ByteArray} (hq:q.size≤100) (hl:d.nm.length≠2000):(d.label q).2.1.Good:=by
 by_cases hf:q∈d.ins
 · obtain⟨s,hs⟩:=Idl.in_ins hf
   rw [Idl.label_found hg hs]
   exact hg
 · by_cases hp:d.pos+16≤d.tb.size
   · rw [Idl.label_new hf hl hp]
     exact hg.named hq hf hl hp
   · rw [Idl.label_short hf hl (by omega)]
     exact hg
theorem Idl.cell_good {d:Idl} (hg:d.Good) {l t:ByteArray} (hlb:l.size=16) (htx:t.size=24) (hl:d.cl.length≠2000) (hp:d.pos+40≤d.tb.size):(d.cell l t).2.1.Good:=by
 by_cases hf:(l,t)∈d.made
 · obtain⟨c,hc⟩:=Idl.in_made hf
   rw [Idl.cell_found hg hc]
   exact hg
 · rw [Idl.cell_new hf hl hp]
   exact hg.celled hlb htx hf hl hp
structure Orc where
 m:Int
 key:ByteArray
 d:Idl
namespace Orc
structure Good (o:Orc):Prop where
 m:o.m=1∨o.m=2
 key:o.key.size=32
 d:o.d.Good
def lname:ByteArray:=⟨#[108,97,98,101,108]⟩
def cname:ByteArray:=⟨#[99,101,108,108]⟩
def lab [Sha.Words] (key q:ByteArray):ByteArray:=(Mac.mac (Mac.derive key lname 32) q).extract 0 16
def box [Sha.Words] (key l t:ByteArray):ByteArray:=Seal.box (Mac.derive key cname 32) l ⟨#[]⟩ t
theorem lab_size [Sha.Words] (key q:ByteArray):(lab key q).size=16:=by
 unfold lab
 rw [ByteArray.size_extract,Mac.mac_size]
 rfl
theorem box_size [Sha.Words] (key l t:ByteArray) (ht:t.size=24):(box key l t).size=40:=by
 unfold box
 rw [Seal.box_size,ht]
def back (d e:Idl):Idl:={ e with tb:=d.tb,pos:=d.pos }
theorem back_good {d e:Idl} (hd:d.Good) (he:e.Good):(back d e).Good:=⟨hd.tb,hd.pos,he.nms,he.cls,he.nm,he.cl,he.ins,he.made⟩
def wayL [Sha.Words] (o:Orc) (q:ByteArray):ByteArray × Idl × Int:=
 if o.m=1 then
  let r:=(o.d.fed (lab o.key q) 0).label q
  (r.1,back o.d r.2.1,r.2.2)
 else o.d.label q
def wayC [Sha.Words] (o:Orc) (l t:ByteArray):ByteArray × Idl × Int:=
 if o.m=1 then
  let r:=(o.d.fed (box o.key l t) 0).cell l t
  (r.1,back o.d r.2.1,r.2.2)
 else o.d.cell l t
def wayO [Sha.Words] (o:Orc) (l c:ByteArray):ByteArray × Int:=
 if o.m=1 then Seal.opens (Mac.derive o.key cname 32) l ⟨#[]⟩ c else o.d.opens l c
theorem wayL_good [Sha.Words] {o:Orc} (hg:o.Good) {q:ByteArray} (hq:q.size≤100) (hl:o.d.nm.length≠2000):(o.wayL q).2.1.Good:=by
 unfold wayL
 split
 · exact back_good hg.d (Idl.label_good (hg.d.fed (by rw [lab_size];omega) (Nat.zero_le _)) hq hl)
 · exact Idl.label_good hg.d hq hl
theorem wayC_good [Sha.Words] {o:Orc} (hg:o.Good) {l t:ByteArray} (hlb:l.size=16) (htx:t.size=24) (hl:o.d.cl.length≠2000) (hp:o.m=2→o.d.pos+40≤o.d.tb.size):(o.wayC l t).2.1.Good:=by
 unfold wayC
 split
 · refine back_good hg.d (Idl.cell_good (hg.d.fed ?_ (Nat.zero_le _)) hlb htx hl ?_)
   · rw [box_size _ _ _ htx];omega
   · show 0+40≤(box o.key l t).size
     rw [box_size _ _ _ htx];omega
 · next h=>exact Idl.cell_good hg.d hlb htx hl (hp (hg.m.resolve_left h))
end Orc
end Go.Proofs.YtpnbkfboneabaaaGreat
