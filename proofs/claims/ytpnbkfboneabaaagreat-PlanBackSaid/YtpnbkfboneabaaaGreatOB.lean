import Derived.Test.YtpnbkfboneabaaaGreatOA
import Derived.Shelf.Spec.SlicesGrow
set_option maxRecDepth 100000
set_option maxHeartbeats 4000000
namespace Go.Proofs.YtpnbkfboneabaaaGreat
open Go.RowKit
def WayIs (w:World) (R:ByteArray × Idl × Int) (e:Ending) (w':World):Prop:=
 ∃ nv' cv',e= .returned (.tuple #[.string R.1,.agg (Idl.vals R.2.1.tb R.2.1.pos nv' cv' R.2.1.clash),.int .i64 R.2.2])∧NmAt w' w.heap.size nv' R.2.1.nm∧ClAt w' w.heap.size cv' R.2.1.cl∧Below w.heap.size w w'
def KeyedAt (w:World) (O:Array Value) (R:ByteArray × Idl × Int) (v:Value) (wx:World):Prop:=
 ∃ g a k a2 k2,v= .pointer (some ⟨g,0,none⟩)∧w.heap.size+2≤g∧Row wx g 32 #[.string R.2.1.tb,.int .i64 (R.2.1.pos:Int),.slice a R.2.1.nm.length k,.slice a2 R.2.1.cl.length k2,.bool R.2.1.clash]∧
   Row wx w.heap.size 174 O∧Row wx (w.heap.size+1) 32 #[.string ⟨#[]⟩,.int .i64 0,.slice none 0 0,.slice none 0 0,.bool false]∧NmAt wx (w.heap.size+2) (.slice a R.2.1.nm.length k) R.2.1.nm∧ClAt wx (w.heap.size+2) (.slice a2 R.2.1.cl.length k2) R.2.1.cl∧Below w.heap.size w wx
theorem keyedAt_alloc {w w4:World} {O:Array Value} {R:ByteArray × Idl × Int} {a1 a2:Option Addr} {k1 k2 C:Nat} (p4:Row w4 w.heap.size 174 O) (q4:Row w4 (w.heap.size+1) 32 #[.string ⟨#[]⟩,.int .i64 0,.slice none 0 0,.slice none 0 0,.bool false]) (hC:w.heap.size+2≤C)
 (hn:NmAt w4 C (.slice a1 R.2.1.nm.length k1) R.2.1.nm) (hc:ClAt w4 C (.slice a2 R.2.1.cl.length k2) R.2.1.cl) (hb:Below w.heap.size w w4):
 KeyedAt w O R (.pointer (some ⟨w4.heap.size,0,none⟩)) (w4.alloc (.cells #[.string R.2.1.tb,.int .i64 (R.2.1.pos:Int),.slice a1 R.2.1.nm.length k1,.slice a2 R.2.1.cl.length k2,.bool R.2.1.clash] 32)):=by
 have hba:Below w4.heap.size w4 (w4.alloc (.cells #[.string R.2.1.tb,.int .i64 (R.2.1.pos:Int),.slice a1 R.2.1.nm.length k1,.slice a2 R.2.1.cl.length k2,.bool R.2.1.clash] 32)):=(Below.refl _ w4).alloc (Nat.le_refl _) _
 have hlt:=q4.lt
 exact⟨w4.heap.size,a1,k1,a2,k2,rfl,by omega,Row.new w4 _ _,p4.alloc _,q4.alloc _,ownsRow_weak (owns_below hn hba) hC,ownsRow_weak (owns_below hc hba) hC,hb.trans (hba.mono hb.size)⟩
theorem keyedAt_store {w w4:World} {O:Array Value} {R:ByteArray × Idl × Int} {a1 a2:Option Addr} {k1 k2 C g:Nat} (hg:w.heap.size+2≤g) (g4:Row w4 g 32 #[.string ⟨#[]⟩,.int .i64 0,.slice none 0 0,.slice none 0 0,.bool false]) (p4:Row w4 w.heap.size 174 O) (q4:Row w4 (w.heap.size+1) 32 #[.string ⟨#[]⟩,.int .i64 0,.slice none 0 0,.slice none 0 0,.bool false]) (hC:g<C)
 (hn:NmAt w4 C (.slice a1 R.2.1.nm.length k1) R.2.1.nm) (hc:ClAt w4 C (.slice a2 R.2.1.cl.length k2) R.2.1.cl) (hb:Below w.heap.size w w4):
 KeyedAt w O R (.pointer (some ⟨g,0,none⟩)) (((((w4.setCell ⟨g,0,none⟩ (.string R.2.1.tb)).setCell ⟨g,1,none⟩ (.int .i64 (R.2.1.pos:Int))).setCell ⟨g,2,none⟩ (.slice a1 R.2.1.nm.length k1)).setCell ⟨g,3,none⟩ (.slice a2 R.2.1.cl.length k2)).setCell ⟨g,4,none⟩ (.bool R.2.1.clash)):=by
 have h1:w.heap.size≠g:=by omega
 have h2:w.heap.size+1≠g:=by omega
 have h3:w.heap.size≤g:=by omega
 refine⟨g,a1,k1,a2,k2,rfl,hg,((((g4.store 0 _).store 1 _).store 2 _).store 3 _).store 4 _,?_,?_,?_,?_,?_⟩
 · exact((((p4.other (a:=⟨g,0,none⟩) h1 _).other (a:=⟨g,1,none⟩) h1 _).other (a:=⟨g,2,none⟩) h1 _).other (a:=⟨g,3,none⟩) h1 _).other (a:=⟨g,4,none⟩) h1 _
 · exact((((q4.other (a:=⟨g,0,none⟩) h2 _).other (a:=⟨g,1,none⟩) h2 _).other (a:=⟨g,2,none⟩) h2 _).other (a:=⟨g,3,none⟩) h2 _).other (a:=⟨g,4,none⟩) h2 _
 · exact ownsRow_weak (ownsRow_setCell_below (a:=⟨g,4,none⟩) (ownsRow_setCell_below (a:=⟨g,3,none⟩) (ownsRow_setCell_below (a:=⟨g,2,none⟩) (ownsRow_setCell_below (a:=⟨g,1,none⟩) (ownsRow_setCell_below (a:=⟨g,0,none⟩) hn hC _) hC _) hC _) hC _) hC _) (by omega)
 · exact ownsRow_weak (ownsRow_setCell_below (a:=⟨g,4,none⟩) (ownsRow_setCell_below (a:=⟨g,3,none⟩) (ownsRow_setCell_below (a:=⟨g,2,none⟩) (ownsRow_setCell_below (a:=⟨g,1,none⟩) (ownsRow_setCell_below (a:=⟨g,0,none⟩) hc hC _) hC _) hC _) hC _) hC _) (by omega)
 · exact((((hb.setCell (p:=⟨g,0,none⟩) h3 _).setCell (p:=⟨g,1,none⟩) h3 _).setCell (p:=⟨g,2,none⟩) h3 _).setCell (p:=⟨g,3,none⟩) h3 _).setCell (p:=⟨g,4,none⟩) h3 _
theorem keyedL_any [Sha.Words] (o:Orc) (hg:o.Good) (hm:o.m=1) (nv cv:Value) (q:ByteArray) (hq:q.size≤100) (hl:o.d.nm.length≠2000) (w:World) (hR:Sha.RoundIn w) (hN:NmAt w 0 nv o.d.nm) (hC:ClAt w 0 cv o.d.cl):
 Calls Tryz.prog 193 #[.agg (Orc.vals 1 o.key o.d.tb o.d.pos nv cv o.d.clash),.string q] w fun e w'=>WayIs w (o.wayL q) e w':=by
 obtain⟨R,hRe⟩:∃ R,(o.d.fed (Orc.lab o.key q) 0).label q=R:=⟨_,rfl⟩
 have hway:o.wayL q=(R.1,Orc.back o.d R.2.1,R.2.2):=by
  rw [← hRe]
  unfold Orc.wayL
  rw [if_pos hm]
 rw [hway]
 have hI:∀ w1,Below w.heap.size w w1→Calls Tryz.prog 201 #[.agg (Idl.vals (Orc.lab o.key q) 0 nv cv o.d.clash),.string q] w1 fun e w'=>∃ nv' cv',e= .returned (.tuple #[.string R.1,.agg (Idl.vals R.2.1.tb R.2.1.pos nv' cv' R.2.1.clash),.int .i64 R.2.2])∧NmAt w' w1.heap.size nv' R.2.1.nm∧ClAt w' w1.heap.size cv' R.2.1.cl∧Below w1.heap.size w1 w':=by
  intro w1 hb
  rw [← hRe]
  exact Label_all (o.d.fed (Orc.lab o.key q) 0) (hg.d.fed (by rw [Orc.lab_size];omega) (Nat.zero_le _)) nv cv q hq hl w1 (owns_below hN hb) (owns_below hC hb)
 have hK:=fun w1 (hb:Below w.heap.size w w1)=>key_any o.key o.d.tb o.d.pos nv cv o.d.clash hg.key Orc.lname (by decide) w1 (hR.below hb)
 have hM:=fun w1 (hb:Below w.heap.size w w1)=>(Mac_any (Mac.derive o.key Orc.lname 32) q (by rw [Mac.derive_size];omega) (by omega) w1 (hR.below hb)).mono fun e w' h=>And.intro h.1 (h.2.toBelow fun _ h=>h)
 obtain⟨na,nk,rfl⟩:=slice_of hN
 obtain⟨ca,ck,rfl⟩:=slice_of hC
 have hF:=fun w1=>fed_any o.key o.d.tb o.d.pos na ca o.d.nm.length o.d.cl.length nk ck o.d.clash (Orc.lab o.key q) w1
 have hB:=fun a c n1 n2 k1 k2 w1=>back_any o.key o.d.tb o.d.pos (.slice na o.d.nm.length nk) (.slice ca o.d.cl.length ck) o.d.clash R.2.1.tb R.2.1.pos a c n1 n2 k1 k2 R.2.1.clash w1
 clear hway hRe hN hC
 obtain⟨m,key,d⟩:=o
 dsimp only at*
 have hkey:key.size=32:=hg.key
 have hls:(Orc.lab key q).size=16:=Orc.lab_size _ _
 clear hg hl hm hq
 have hms:(Mac.mac (Mac.derive key Orc.lname 32) q).size=32:=Mac.mac_size _ _
 unfold Orc.lab at*
 generalize Mac.derive key Orc.lname 32=D at*
 generalize Mac.mac D q=M at*
 unfold Orc.vals Idl.vals Orc.lname at*
 obtain⟨p0,q0,hb0,hz0⟩:=box2 w #[.int .i64 1,.string key,.string d.tb,.int .i64 (d.pos:Int),.slice na d.nm.length nk,.slice ca d.cl.length ck,.bool d.clash] #[.string ⟨#[]⟩,.int .i64 0,.slice none 0 0,.slice none 0 0,.bool false] 174 32
 have HI:=Lib.hid hI
 have HK:=Lib.hid hK
 have HM:=Lib.hid hM
 have HF:=Lib.hid hF
 have HB:=Lib.hid hB
 have Hls:=Lib.hid hls
 have Hms:=Lib.hid hms
 clear hI hK hF hB hkey hls hM hms hR
 go_enter Tryz.func193,Tryz.ntmps193
 go_wp2_with fail
 refine(HK.out _ hb0).mono ?_
 rintro e w1 ⟨rfl,hb1⟩
 have p1:=p0.below hb1 p0.lt
 have q1:=q0.below hb1 q0.lt
 have hbx:Below w.heap.size w w1:=hb0.trans (hb1.mono hb0.size)
 have Hp1:=Lib.hid p1
 have Hq1:=Lib.hid q1
 have Hbx:=Lib.hid hbx
 clear p0 q0 hb0 hb1 hz0 p1 q1 hbx
 go_wp2_with fail
 refine(HM.out _ Hbx.out).mono ?_
 rintro e w2 ⟨rfl,hb2⟩
 have p2:=Hp1.out.below hb2 Hp1.out.lt
 have q2:=Hq1.out.below hb2 Hq1.out.lt
 have hb02:Below w.heap.size w w2:=Hbx.out.trans (hb2.mono Hbx.out.size)
 clear Hp1 Hq1 Hbx hb2
 go_upto_region 2 with fail
 have pA:=p2.drew
 have qA:=q2.drew
 have hbA:Below w.heap.size w w2.drew:=hb02.drew
 have hz2:w.heap.size+2≤w2.heap.size:=by have:=q2.lt;omega
 have hbB:Below w.heap.size w (w2.drew.alloc (.cells #[.string ⟨#[]⟩,.int .i64 0,.slice none 0 0,.slice none 0 0,.bool false] 32)):=hbA.alloc (by have:=hbA.size;omega) _
 have pB:=pA.alloc (.cells #[.string ⟨#[]⟩,.int .i64 0,.slice none 0 0,.slice none 0 0,.bool false] 32)
 have qB:=qA.alloc (.cells #[.string ⟨#[]⟩,.int .i64 0,.slice none 0 0,.slice none 0 0,.bool false] 32)
 have gB:Row (w2.drew.alloc (.cells #[.string ⟨#[]⟩,.int .i64 0,.slice none 0 0,.slice none 0 0,.bool false] 32)) w2.heap.size 32 #[.string ⟨#[]⟩,.int .i64 0,.slice none 0 0,.slice none 0 0,.bool false]:=Row.new w2.drew _ _
 have c0:w2.cell? ⟨w.heap.size,0,none⟩=some (.int .i64 1):=p2.cell 0
 have c1:w2.cell? ⟨w.heap.size,1,none⟩=some (.string key):=p2.cell 1
 have c2:w2.cell? ⟨w.heap.size,2,none⟩=some (.string d.tb):=p2.cell 2
 have c3:w2.cell? ⟨w.heap.size,3,none⟩=some (.int .i64 (d.pos:Int)):=p2.cell 3
 have c4:w2.cell? ⟨w.heap.size,4,none⟩=some (.slice na d.nm.length nk):=p2.cell 4
 have c5:w2.cell? ⟨w.heap.size,5,none⟩=some (.slice ca d.cl.length ck):=p2.cell 5
 have c6:w2.cell? ⟨w.heap.size,6,none⟩=some (.bool d.clash):=p2.cell 6
 have m1:w.heap.size<w2.heap.size:=by omega
 have m2:w.heap.size≠w2.heap.size:=by omega
 have m3:w.heap.size+1<w2.heap.size:=by omega
 have m4:w.heap.size+1≠w2.heap.size:=by omega
 have hms':((16:Int)≤M.size):=by have:=Hms.out;omega
 go_cut [9,10,11] (fun v9 v10 v11 wx=>v9= .string R.1∧v11= .int .i64 R.2.2∧KeyedAt w #[.int .i64 1,.string key,.string d.tb,.int .i64 (d.pos:Int),.slice na d.nm.length nk,.slice ca d.cl.length ck,.bool d.clash] R v10 wx)
 case first=>
  have hmix:Tryz.prog.follows .mixedOrders=true:=by kernel_rfl
  go_region_with (first
   | (go_at_call 197
      refine(HF.out _).mono ?_;rintro e w3 ⟨rfl,hb3⟩
      first
       | (have p3:=pA.below hb3 pA.lt
          have q3:=qA.below hb3 qA.lt
          have hb03:Below w.heap.size w w3:=hbA.trans (hb3.mono hbA.size))
       | (have p3:=pB.below hb3 pB.lt
          have q3:=qB.below hb3 qB.lt
          have g3:=gB.below hb3 gB.lt
          have hb03:Below w.heap.size w w3:=hbB.trans (hb3.mono hbB.size)))
   | (go_at_call 201
      first
       | (refine(HI.out w3 hb03).mono ?_;rintro e w4 ⟨nv',cv',rfl,hn4,hc4,hb4⟩
          obtain⟨a1,k1,rfl⟩:=slice_of hn4
          obtain⟨a2,k2,rfl⟩:=slice_of hc4
          first
           | (have g4:=g3.below hb4 g3.lt
              have hgl:w2.heap.size<w4.heap.size:=g4.lt
              have hgl3:w2.heap.size<w3.heap.size:=g3.lt
              have z0:w4.cell? ⟨w2.heap.size,0,none⟩=some (.string ⟨#[]⟩):=g4.cell 0
              have z1:w4.cell? ⟨w2.heap.size,1,none⟩=some (.int .i64 0):=g4.cell 1
              have z2:w4.cell? ⟨w2.heap.size,2,none⟩=some (.slice none 0 0):=g4.cell 2
              have z3:w4.cell? ⟨w2.heap.size,3,none⟩=some (.slice none 0 0):=g4.cell 3
              have z4:w4.cell? ⟨w2.heap.size,4,none⟩=some (.bool false):=g4.cell 4
              have zf0:=g4.frozen 0
              have zf1:=g4.frozen 1
              have zf2:=g4.frozen 2
              have zf3:=g4.frozen 3
              have zf4:=g4.frozen 4)
           | skip
          have p4:=p3.below hb4 p3.lt
          have q4:=q3.below hb4 q3.lt
          have hb04:Below w.heap.size w w4:=hb03.trans (hb4.mono hb03.size))
       | (refine(HI.out (w3.alloc (.cells #[.string ⟨#[]⟩,.int .i64 0,.slice none 0 0,.slice none 0 0,.bool false] 32)) (hb03.alloc hb03.size _)).mono ?_;rintro e w4 ⟨nv',cv',rfl,hn4,hc4,hb4⟩
          obtain⟨a1,k1,rfl⟩:=slice_of hn4
          obtain⟨a2,k2,rfl⟩:=slice_of hc4
          have gg:Row (w3.alloc (.cells #[.string ⟨#[]⟩,.int .i64 0,.slice none 0 0,.slice none 0 0,.bool false] 32)) w3.heap.size 32 #[.string ⟨#[]⟩,.int .i64 0,.slice none 0 0,.slice none 0 0,.bool false]:=Row.new w3 _ _
          have g5:=gg.below hb4 gg.lt
          have hgl:w3.heap.size<w4.heap.size:=g5.lt
          have z0:w4.cell? ⟨w3.heap.size,0,none⟩=some (.string ⟨#[]⟩):=g5.cell 0
          have z1:w4.cell? ⟨w3.heap.size,1,none⟩=some (.int .i64 0):=g5.cell 1
          have z2:w4.cell? ⟨w3.heap.size,2,none⟩=some (.slice none 0 0):=g5.cell 2
          have z3:w4.cell? ⟨w3.heap.size,3,none⟩=some (.slice none 0 0):=g5.cell 3
          have z4:w4.cell? ⟨w3.heap.size,4,none⟩=some (.bool false):=g5.cell 4
          have zf0:=g5.frozen 0
          have zf1:=g5.frozen 1
          have zf2:=g5.frozen 2
          have zf3:=g5.frozen 3
          have zf4:=g5.frozen 4
          have p4:=(p3.alloc _).below hb4 (p3.alloc _).lt
          have q4:=(q3.alloc _).below hb4 (q3.alloc _).lt
          have hb04:Below w.heap.size w w4:=(hb03.alloc hb03.size _).trans (hb4.mono (hb03.alloc hb03.size _).size))))
  all_goals
   go_wp2
   go_meet
   have hs3:w.heap.size+2≤w3.heap.size:=by have:=q3.lt;omega
   refine⟨rfl,rfl,?_⟩
   first
    | (have h:=g4;exact keyedAt_store hz2 h p4 q4 hgl3 hn4 hc4 hb04)
    | (have h:=g5;exact keyedAt_store hs3 h p4 q4 gg.lt hn4 hc4 hb04)
    | exact keyedAt_alloc p4 q4 hs3 hn4 hc4 hb04
 case rest=>
  obtain⟨rfl,rfl,g,a1,k1,a2,k2,rfl,hgg,hgr,hp,hq,hn',hc',hb'⟩:=hcut
  clear m1 m2 m3 m4 hms' c0 c1 c2 c3 c4 c5 c6 pA qA hbA hbB pB qB gB p2 q2 hb02 hz2 HI HK HM HF Hls Hms
  have c0:wc.cell? ⟨w.heap.size,0,none⟩=some (.int .i64 1):=hp.cell 0
  have c1:wc.cell? ⟨w.heap.size,1,none⟩=some (.string key):=hp.cell 1
  have c2:wc.cell? ⟨w.heap.size,2,none⟩=some (.string d.tb):=hp.cell 2
  have c3:wc.cell? ⟨w.heap.size,3,none⟩=some (.int .i64 (d.pos:Int)):=hp.cell 3
  have c4:wc.cell? ⟨w.heap.size,4,none⟩=some (.slice na d.nm.length nk):=hp.cell 4
  have c5:wc.cell? ⟨w.heap.size,5,none⟩=some (.slice ca d.cl.length ck):=hp.cell 5
  have c6:wc.cell? ⟨w.heap.size,6,none⟩=some (.bool d.clash):=hp.cell 6
  have e0:wc.cell? ⟨g,0,none⟩=some (.string R.2.1.tb):=hgr.cell 0
  have e1:wc.cell? ⟨g,1,none⟩=some (.int .i64 (R.2.1.pos:Int)):=hgr.cell 1
  have e2:wc.cell? ⟨g,2,none⟩=some (.slice a1 R.2.1.nm.length k1):=hgr.cell 2
  have e3:wc.cell? ⟨g,3,none⟩=some (.slice a2 R.2.1.cl.length k2):=hgr.cell 3
  have e4:wc.cell? ⟨g,4,none⟩=some (.bool R.2.1.clash):=hgr.cell 4
  have Hq:=Lib.hid hq
  have Hn':=Lib.hid hn'
  have Hc':=Lib.hid hc'
  have Hb':=Lib.hid hb'
  have Hgg:=Lib.hid hgg
  clear hp hq hgr hn' hc' hb' hgg
  go_wp2_with fail
  refine(HB.out _ _ _ _ _ _ _).mono ?_
  rintro e w6 ⟨rfl,hb6⟩
  clear c0 c1 c2 c3 c4 c5 c6 e0 e1 e2 e3 e4
  have q6:=Hq.out.below hb6 Hq.out.lt
  have n6:=owns_below Hn'.out hb6
  have l6:=owns_below Hc'.out hb6
  have hb06:Below w.heap.size w w6:=Hb'.out.trans (hb6.mono Hb'.out.size)
  have e0:w6.cell? ⟨w.heap.size+1,0,none⟩=some (.string ⟨#[]⟩):=q6.cell 0
  have f0:=q6.frozen 0
  have e1:w6.cell? ⟨w.heap.size+1,1,none⟩=some (.int .i64 0):=q6.cell 1
  have f1:=q6.frozen 1
  have e2:w6.cell? ⟨w.heap.size+1,2,none⟩=some (.slice none 0 0):=q6.cell 2
  have f2:=q6.frozen 2
  have e3:w6.cell? ⟨w.heap.size+1,3,none⟩=some (.slice none 0 0):=q6.cell 3
  have f3:=q6.frozen 3
  have e4:w6.cell? ⟨w.heap.size+1,4,none⟩=some (.bool false):=q6.cell 4
  have f4:=q6.frozen 4
  have y0:Row w6 (w.heap.size+1) 32 #[.string ⟨#[]⟩,.int .i64 0,.slice none 0 0,.slice none 0 0,.bool false]:=q6
  have n0:=n6
  have l0:=l6
  have b0:=hb06
  have y1:Row (w6.setCell ⟨w.heap.size+1,0,none⟩ (.string d.tb)) (w.heap.size+1) 32 #[.string d.tb,.int .i64 0,.slice none 0 0,.slice none 0 0,.bool false]:=y0.store 0 _
  have n1:=ownsRow_setCell_below (a:=⟨w.heap.size+1,0,none⟩) n0 (by show w.heap.size+1<w.heap.size+2;omega) (.string d.tb)
  have l1:=ownsRow_setCell_below (a:=⟨w.heap.size+1,0,none⟩) l0 (by show w.heap.size+1<w.heap.size+2;omega) (.string d.tb)
  have b1:=Below.setCell b0 (p:=⟨w.heap.size+1,0,none⟩) (by show w.heap.size≤w.heap.size+1;omega) (.string d.tb)
  have y2:Row ((w6.setCell ⟨w.heap.size+1,0,none⟩ (.string d.tb)).setCell ⟨w.heap.size+1,1,none⟩ (.int .i64 (d.pos:Int))) (w.heap.size+1) 32 #[.string d.tb,.int .i64 (d.pos:Int),.slice none 0 0,.slice none 0 0,.bool false]:=y1.store 1 _
  have n2:=ownsRow_setCell_below (a:=⟨w.heap.size+1,1,none⟩) n1 (by show w.heap.size+1<w.heap.size+2;omega) (.int .i64 (d.pos:Int))
  have l2:=ownsRow_setCell_below (a:=⟨w.heap.size+1,1,none⟩) l1 (by show w.heap.size+1<w.heap.size+2;omega) (.int .i64 (d.pos:Int))
  have b2:=Below.setCell b1 (p:=⟨w.heap.size+1,1,none⟩) (by show w.heap.size≤w.heap.size+1;omega) (.int .i64 (d.pos:Int))
  have y3:Row (((w6.setCell ⟨w.heap.size+1,0,none⟩ (.string d.tb)).setCell ⟨w.heap.size+1,1,none⟩ (.int .i64 (d.pos:Int))).setCell ⟨w.heap.size+1,2,none⟩ (.slice a1 R.2.1.nm.length k1)) (w.heap.size+1) 32 #[.string d.tb,.int .i64 (d.pos:Int),.slice a1 R.2.1.nm.length k1,.slice none 0 0,.bool false]:=y2.store 2 _
  have n3:=ownsRow_setCell_below (a:=⟨w.heap.size+1,2,none⟩) n2 (by show w.heap.size+1<w.heap.size+2;omega) (.slice a1 R.2.1.nm.length k1)
  have l3:=ownsRow_setCell_below (a:=⟨w.heap.size+1,2,none⟩) l2 (by show w.heap.size+1<w.heap.size+2;omega) (.slice a1 R.2.1.nm.length k1)
  have b3:=Below.setCell b2 (p:=⟨w.heap.size+1,2,none⟩) (by show w.heap.size≤w.heap.size+1;omega) (.slice a1 R.2.1.nm.length k1)
  have y4:Row ((((w6.setCell ⟨w.heap.size+1,0,none⟩ (.string d.tb)).setCell ⟨w.heap.size+1,1,none⟩ (.int .i64 (d.pos:Int))).setCell ⟨w.heap.size+1,2,none⟩ (.slice a1 R.2.1.nm.length k1)).setCell ⟨w.heap.size+1,3,none⟩ (.slice a2 R.2.1.cl.length k2)) (w.heap.size+1) 32 #[.string d.tb,.int .i64 (d.pos:Int),.slice a1 R.2.1.nm.length k1,.slice a2 R.2.1.cl.length k2,.bool false]:=y3.store 3 _
  have n4:=ownsRow_setCell_below (a:=⟨w.heap.size+1,3,none⟩) n3 (by show w.heap.size+1<w.heap.size+2;omega) (.slice a2 R.2.1.cl.length k2)
  have l4:=ownsRow_setCell_below (a:=⟨w.heap.size+1,3,none⟩) l3 (by show w.heap.size+1<w.heap.size+2;omega) (.slice a2 R.2.1.cl.length k2)
  have b4:=Below.setCell b3 (p:=⟨w.heap.size+1,3,none⟩) (by show w.heap.size≤w.heap.size+1;omega) (.slice a2 R.2.1.cl.length k2)
  have y5:Row (((((w6.setCell ⟨w.heap.size+1,0,none⟩ (.string d.tb)).setCell ⟨w.heap.size+1,1,none⟩ (.int .i64 (d.pos:Int))).setCell ⟨w.heap.size+1,2,none⟩ (.slice a1 R.2.1.nm.length k1)).setCell ⟨w.heap.size+1,3,none⟩ (.slice a2 R.2.1.cl.length k2)).setCell ⟨w.heap.size+1,4,none⟩ (.bool R.2.1.clash)) (w.heap.size+1) 32 #[.string d.tb,.int .i64 (d.pos:Int),.slice a1 R.2.1.nm.length k1,.slice a2 R.2.1.cl.length k2,.bool R.2.1.clash]:=y4.store 4 _
  have n5:=ownsRow_setCell_below (a:=⟨w.heap.size+1,4,none⟩) n4 (by show w.heap.size+1<w.heap.size+2;omega) (.bool R.2.1.clash)
  have l5:=ownsRow_setCell_below (a:=⟨w.heap.size+1,4,none⟩) l4 (by show w.heap.size+1<w.heap.size+2;omega) (.bool R.2.1.clash)
  have b5:=Below.setCell b4 (p:=⟨w.heap.size+1,4,none⟩) (by show w.heap.size≤w.heap.size+1;omega) (.bool R.2.1.clash)
  obtain⟨WF,hWF⟩:∃ WF,(((((w6.setCell ⟨w.heap.size+1,0,none⟩ (.string d.tb)).setCell ⟨w.heap.size+1,1,none⟩ (.int .i64 (d.pos:Int))).setCell ⟨w.heap.size+1,2,none⟩ (.slice a1 R.2.1.nm.length k1)).setCell ⟨w.heap.size+1,3,none⟩ (.slice a2 R.2.1.cl.length k2)).setCell ⟨w.heap.size+1,4,none⟩ (.bool R.2.1.clash))=WF:=⟨_,rfl⟩
  rw [hWF] at y5 n5 l5 b5
  have Hy:=Lib.hid y5
  have Hn:=Lib.hid n5
  have Hl:=Lib.hid l5
  have Hbf:=Lib.hid b5
  clear y0 y1 y2 y3 y4 y5 n0 n1 n2 n3 n4 n5 l0 l1 l2 l3 l4 l5 b0 b1 b2 b3 b4 b5
  clear q6 n6 l6 hb06 hb6 Hq Hn' Hc' Hb'
  go_wp2
  all_goals
   refine bodyPost_ret (results_tct _ _ (g:=w.heap.size+1) (t:=32) rfl rfl Hy.out Tryz.underlying32 rfl (by kernel_rfl)) rfl ⟨_,_,rfl,?_,?_,?_⟩
   · exact ownsRow_weak (W:=WF) Hn.out (by omega)
   · exact ownsRow_weak (W:=WF) Hl.out (by omega)
   · exact Hbf.out
theorem keyedC_any [Sha.Words] (o:Orc) (hg:o.Good) (hm:o.m=1) (nv cv:Value) (lb tx:ByteArray) (hlb:lb.size=16) (htx:tx.size=24) (hl:o.d.cl.length≠2000) (w:World) (hR:Sha.RoundIn w) (hN:NmAt w 0 nv o.d.nm) (hC:ClAt w 0 cv o.d.cl):
 Calls Tryz.prog 191 #[.agg (Orc.vals 1 o.key o.d.tb o.d.pos nv cv o.d.clash),.string lb,.string tx] w fun e w'=>WayIs w (o.wayC lb tx) e w':=by
 obtain⟨R,hRe⟩:∃ R,(o.d.fed (Orc.box o.key lb tx) 0).cell lb tx=R:=⟨_,rfl⟩
 have hway:o.wayC lb tx=(R.1,Orc.back o.d R.2.1,R.2.2):=by
  rw [← hRe]
  unfold Orc.wayC
  rw [if_pos hm]
 rw [hway]
 have hI:∀ w1,Below w.heap.size w w1→Calls Tryz.prog 196 #[.agg (Idl.vals (Orc.box o.key lb tx) 0 nv cv o.d.clash),.string lb,.string tx] w1 fun e w'=>∃ nv' cv',e= .returned (.tuple #[.string R.1,.agg (Idl.vals R.2.1.tb R.2.1.pos nv' cv' R.2.1.clash),.int .i64 R.2.2])∧NmAt w' w1.heap.size nv' R.2.1.nm∧ClAt w' w1.heap.size cv' R.2.1.cl∧Below w1.heap.size w1 w':=by
  intro w1 hb
  rw [← hRe]
  exact Cell_all (o.d.fed (Orc.box o.key lb tx) 0) (hg.d.fed (by rw [Orc.box_size _ _ _ htx];omega) (Nat.zero_le _)) nv cv lb tx hlb htx hl (by show 0+40≤(Orc.box o.key lb tx).size;rw [Orc.box_size _ _ _ htx];omega) w1 (owns_below hN hb) (owns_below hC hb)
 have hK:=fun w1 (hb:Below w.heap.size w w1)=>key_any o.key o.d.tb o.d.pos nv cv o.d.clash hg.key Orc.cname (by decide) w1 (hR.below hb)
 have hM:=fun w1 (hb:Below w.heap.size w w1)=>Seal_all (Mac.derive o.key Orc.cname 32) lb ⟨#[]⟩ tx (Mac.derive_size _ _ _) hlb (by decide) (by omega) w1 (hR.below hb)
 obtain⟨na,nk,rfl⟩:=slice_of hN
 obtain⟨ca,ck,rfl⟩:=slice_of hC
 have hF:=fun w1=>fed_any o.key o.d.tb o.d.pos na ca o.d.nm.length o.d.cl.length nk ck o.d.clash (Orc.box o.key lb tx) w1
 have hB:=fun a c n1 n2 k1 k2 w1=>back_any o.key o.d.tb o.d.pos (.slice na o.d.nm.length nk) (.slice ca o.d.cl.length ck) o.d.clash R.2.1.tb R.2.1.pos a c n1 n2 k1 k2 R.2.1.clash w1
 clear hway hRe hN hC
 obtain⟨m,key,d⟩:=o
 dsimp only at*
 have hkey:key.size=32:=hg.key
 have hls:(Orc.box key lb tx).size=40:=Orc.box_size _ _ _ htx
 clear hg hl hm hlb htx
 unfold Orc.box at*
 generalize Mac.derive key Orc.cname 32=D at*
 generalize Seal.box D lb ⟨#[]⟩ tx=M at*
 unfold Orc.vals Idl.vals Orc.cname at*
 obtain⟨p0,q0,hb0,hz0⟩:=box2 w #[.int .i64 1,.string key,.string d.tb,.int .i64 (d.pos:Int),.slice na d.nm.length nk,.slice ca d.cl.length ck,.bool d.clash] #[.string ⟨#[]⟩,.int .i64 0,.slice none 0 0,.slice none 0 0,.bool false] 174 32
 have HI:=Lib.hid hI
 have HK:=Lib.hid hK
 have HM:=Lib.hid hM
 have HF:=Lib.hid hF
 have HB:=Lib.hid hB
 have Hls:=Lib.hid hls
 clear hI hK hF hB hkey hls hM hR
 go_enter Tryz.func191,Tryz.ntmps191
 go_wp2_with fail
 refine(HK.out _ hb0).mono ?_
 rintro e w1 ⟨rfl,hb1⟩
 have p1:=p0.below hb1 p0.lt
 have q1:=q0.below hb1 q0.lt
 have hbx:Below w.heap.size w w1:=hb0.trans (hb1.mono hb0.size)
 have Hp1:=Lib.hid p1
 have Hq1:=Lib.hid q1
 have Hbx:=Lib.hid hbx
 clear p0 q0 hb0 hb1 hz0 p1 q1 hbx
 go_wp2_with fail
 refine(HM.out _ Hbx.out).mono ?_
 rintro e w2 ⟨rfl,hb2⟩
 have p2:=Hp1.out.below hb2 Hp1.out.lt
 have q2:=Hq1.out.below hb2 Hq1.out.lt
 have hb02:Below w.heap.size w w2:=Hbx.out.trans (hb2.mono Hbx.out.size)
 clear Hp1 Hq1 Hbx hb2
 have c0:w2.cell? ⟨w.heap.size,0,none⟩=some (.int .i64 1):=p2.cell 0
 have c1:w2.cell? ⟨w.heap.size,1,none⟩=some (.string key):=p2.cell 1
 have c2:w2.cell? ⟨w.heap.size,2,none⟩=some (.string d.tb):=p2.cell 2
 have c3:w2.cell? ⟨w.heap.size,3,none⟩=some (.int .i64 (d.pos:Int)):=p2.cell 3
 have c4:w2.cell? ⟨w.heap.size,4,none⟩=some (.slice na d.nm.length nk):=p2.cell 4
 have c5:w2.cell? ⟨w.heap.size,5,none⟩=some (.slice ca d.cl.length ck):=p2.cell 5
 have c6:w2.cell? ⟨w.heap.size,6,none⟩=some (.bool d.clash):=p2.cell 6
 go_wp2_with fail
 refine(HF.out _).mono ?_
 rintro e w3 ⟨rfl,hb3⟩
 have p3:=p2.below hb3 p2.lt
 have q3:=q2.below hb3 q2.lt
 have hb03:Below w.heap.size w w3:=hb02.trans (hb3.mono hb02.size)
 clear p2 q2 hb02 hb3 HF HK HM c0 c1 c2 c3 c4 c5 c6
 go_wp2_with fail
 refine(HI.out w3 hb03).mono ?_
 rintro e w4 ⟨nv',cv',rfl,hn4,hc4,hb4⟩
 obtain⟨a1,k1,rfl⟩:=slice_of hn4
 obtain⟨a2,k2,rfl⟩:=slice_of hc4
 have p4:=p3.below hb4 p3.lt
 have q4:=q3.below hb4 q3.lt
 have hb04:Below w.heap.size w w4:=hb03.trans (hb4.mono hb03.size)
 have hs3:w.heap.size+2≤w3.heap.size:=by have:=q3.lt;omega
 have hgg:w.heap.size+2≤w4.heap.size:=by have:=q4.lt;omega
 have hba:Below w4.heap.size w4 (w4.alloc (.cells #[.string R.2.1.tb,.int .i64 (R.2.1.pos:Int),.slice a1 R.2.1.nm.length k1,.slice a2 R.2.1.cl.length k2,.bool R.2.1.clash] 32)):=(Below.refl _ w4).alloc (Nat.le_refl _) _
 have hgr:Row (w4.alloc (.cells #[.string R.2.1.tb,.int .i64 (R.2.1.pos:Int),.slice a1 R.2.1.nm.length k1,.slice a2 R.2.1.cl.length k2,.bool R.2.1.clash] 32)) w4.heap.size 32 #[.string R.2.1.tb,.int .i64 (R.2.1.pos:Int),.slice a1 R.2.1.nm.length k1,.slice a2 R.2.1.cl.length k2,.bool R.2.1.clash]:=Row.new w4 _ _
 have hp:=p4.alloc (.cells #[.string R.2.1.tb,.int .i64 (R.2.1.pos:Int),.slice a1 R.2.1.nm.length k1,.slice a2 R.2.1.cl.length k2,.bool R.2.1.clash] 32)
 have hq:=q4.alloc (.cells #[.string R.2.1.tb,.int .i64 (R.2.1.pos:Int),.slice a1 R.2.1.nm.length k1,.slice a2 R.2.1.cl.length k2,.bool R.2.1.clash] 32)
 have hn':=ownsRow_weak (owns_below hn4 hba) hs3
 have hc':=ownsRow_weak (owns_below hc4 hba) hs3
 have hb':Below w.heap.size w (w4.alloc (.cells #[.string R.2.1.tb,.int .i64 (R.2.1.pos:Int),.slice a1 R.2.1.nm.length k1,.slice a2 R.2.1.cl.length k2,.bool R.2.1.clash] 32)):=hb04.trans (hba.mono hb04.size)
 generalize hW5:w4.alloc (.cells #[.string R.2.1.tb,.int .i64 (R.2.1.pos:Int),.slice a1 R.2.1.nm.length k1,.slice a2 R.2.1.cl.length k2,.bool R.2.1.clash] 32)=W5 at*
 clear p3 q3 hb03 hb4 hn4 hc4 p4 q4 hb04 hs3 hba HI
 have c0:W5.cell? ⟨w.heap.size,0,none⟩=some (.int .i64 1):=hp.cell 0
 have c1:W5.cell? ⟨w.heap.size,1,none⟩=some (.string key):=hp.cell 1
 have c2:W5.cell? ⟨w.heap.size,2,none⟩=some (.string d.tb):=hp.cell 2
 have c3:W5.cell? ⟨w.heap.size,3,none⟩=some (.int .i64 (d.pos:Int)):=hp.cell 3
 have c4:W5.cell? ⟨w.heap.size,4,none⟩=some (.slice na d.nm.length nk):=hp.cell 4
 have c5:W5.cell? ⟨w.heap.size,5,none⟩=some (.slice ca d.cl.length ck):=hp.cell 5
 have c6:W5.cell? ⟨w.heap.size,6,none⟩=some (.bool d.clash):=hp.cell 6
 have e0:W5.cell? ⟨w4.heap.size,0,none⟩=some (.string R.2.1.tb):=hgr.cell 0
 have e1:W5.cell? ⟨w4.heap.size,1,none⟩=some (.int .i64 (R.2.1.pos:Int)):=hgr.cell 1
 have e2:W5.cell? ⟨w4.heap.size,2,none⟩=some (.slice a1 R.2.1.nm.length k1):=hgr.cell 2
 have e3:W5.cell? ⟨w4.heap.size,3,none⟩=some (.slice a2 R.2.1.cl.length k2):=hgr.cell 3
 have e4:W5.cell? ⟨w4.heap.size,4,none⟩=some (.bool R.2.1.clash):=hgr.cell 4
 have Hq:=Lib.hid hq
 have Hn':=Lib.hid hn'
 have Hc':=Lib.hid hc'
 have Hb':=Lib.hid hb'
 have Hgg:=Lib.hid hgg
 clear hp hq hgr hn' hc' hb' hgg
 go_wp2_with fail
 refine(HB.out _ _ _ _ _ _ _).mono ?_
 rintro e w6 ⟨rfl,hb6⟩
 clear hW5 c0 c1 c2 c3 c4 c5 c6 e0 e1 e2 e3 e4
 have q6:=Hq.out.below hb6 Hq.out.lt
 have n6:=owns_below Hn'.out hb6
 have l6:=owns_below Hc'.out hb6
 have hb06:Below w.heap.size w w6:=Hb'.out.trans (hb6.mono Hb'.out.size)
 have e0:w6.cell? ⟨w.heap.size+1,0,none⟩=some (.string ⟨#[]⟩):=q6.cell 0
 have f0:=q6.frozen 0
 have e1:w6.cell? ⟨w.heap.size+1,1,none⟩=some (.int .i64 0):=q6.cell 1
 have f1:=q6.frozen 1
 have e2:w6.cell? ⟨w.heap.size+1,2,none⟩=some (.slice none 0 0):=q6.cell 2
 have f2:=q6.frozen 2
 have e3:w6.cell? ⟨w.heap.size+1,3,none⟩=some (.slice none 0 0):=q6.cell 3
 have f3:=q6.frozen 3
 have e4:w6.cell? ⟨w.heap.size+1,4,none⟩=some (.bool false):=q6.cell 4
 have f4:=q6.frozen 4
 have y0:Row w6 (w.heap.size+1) 32 #[.string ⟨#[]⟩,.int .i64 0,.slice none 0 0,.slice none 0 0,.bool false]:=q6
 have n0:=n6
 have l0:=l6
 have b0:=hb06
 have y1:Row (w6.setCell ⟨w.heap.size+1,0,none⟩ (.string d.tb)) (w.heap.size+1) 32 #[.string d.tb,.int .i64 0,.slice none 0 0,.slice none 0 0,.bool false]:=y0.store 0 _
 have n1:=ownsRow_setCell_below (a:=⟨w.heap.size+1,0,none⟩) n0 (by show w.heap.size+1<w.heap.size+2;omega) (.string d.tb)
 have l1:=ownsRow_setCell_below (a:=⟨w.heap.size+1,0,none⟩) l0 (by show w.heap.size+1<w.heap.size+2;omega) (.string d.tb)
 have b1:=Below.setCell b0 (p:=⟨w.heap.size+1,0,none⟩) (by show w.heap.size≤w.heap.size+1;omega) (.string d.tb)
 have y2:Row ((w6.setCell ⟨w.heap.size+1,0,none⟩ (.string d.tb)).setCell ⟨w.heap.size+1,1,none⟩ (.int .i64 (d.pos:Int))) (w.heap.size+1) 32 #[.string d.tb,.int .i64 (d.pos:Int),.slice none 0 0,.slice none 0 0,.bool false]:=y1.store 1 _
 have n2:=ownsRow_setCell_below (a:=⟨w.heap.size+1,1,none⟩) n1 (by show w.heap.size+1<w.heap.size+2;omega) (.int .i64 (d.pos:Int))
 have l2:=ownsRow_setCell_below (a:=⟨w.heap.size+1,1,none⟩) l1 (by show w.heap.size+1<w.heap.size+2;omega) (.int .i64 (d.pos:Int))
 have b2:=Below.setCell b1 (p:=⟨w.heap.size+1,1,none⟩) (by show w.heap.size≤w.heap.size+1;omega) (.int .i64 (d.pos:Int))
 have y3:Row (((w6.setCell ⟨w.heap.size+1,0,none⟩ (.string d.tb)).setCell ⟨w.heap.size+1,1,none⟩ (.int .i64 (d.pos:Int))).setCell ⟨w.heap.size+1,2,none⟩ (.slice a1 R.2.1.nm.length k1)) (w.heap.size+1) 32 #[.string d.tb,.int .i64 (d.pos:Int),.slice a1 R.2.1.nm.length k1,.slice none 0 0,.bool false]:=y2.store 2 _
 have n3:=ownsRow_setCell_below (a:=⟨w.heap.size+1,2,none⟩) n2 (by show w.heap.size+1<w.heap.size+2;omega) (.slice a1 R.2.1.nm.length k1)
 have l3:=ownsRow_setCell_below (a:=⟨w.heap.size+1,2,none⟩) l2 (by show w.heap.size+1<w.heap.size+2;omega) (.slice a1 R.2.1.nm.length k1)
 have b3:=Below.setCell b2 (p:=⟨w.heap.size+1,2,none⟩) (by show w.heap.size≤w.heap.size+1;omega) (.slice a1 R.2.1.nm.length k1)
 have y4:Row ((((w6.setCell ⟨w.heap.size+1,0,none⟩ (.string d.tb)).setCell ⟨w.heap.size+1,1,none⟩ (.int .i64 (d.pos:Int))).setCell ⟨w.heap.size+1,2,none⟩ (.slice a1 R.2.1.nm.length k1)).setCell ⟨w.heap.size+1,3,none⟩ (.slice a2 R.2.1.cl.length k2)) (w.heap.size+1) 32 #[.string d.tb,.int .i64 (d.pos:Int),.slice a1 R.2.1.nm.length k1,.slice a2 R.2.1.cl.length k2,.bool false]:=y3.store 3 _
 have n4:=ownsRow_setCell_below (a:=⟨w.heap.size+1,3,none⟩) n3 (by show w.heap.size+1<w.heap.size+2;omega) (.slice a2 R.2.1.cl.length k2)
 have l4:=ownsRow_setCell_below (a:=⟨w.heap.size+1,3,none⟩) l3 (by show w.heap.size+1<w.heap.size+2;omega) (.slice a2 R.2.1.cl.length k2)
 have b4:=Below.setCell b3 (p:=⟨w.heap.size+1,3,none⟩) (by show w.heap.size≤w.heap.size+1;omega) (.slice a2 R.2.1.cl.length k2)
 have y5:Row (((((w6.setCell ⟨w.heap.size+1,0,none⟩ (.string d.tb)).setCell ⟨w.heap.size+1,1,none⟩ (.int .i64 (d.pos:Int))).setCell ⟨w.heap.size+1,2,none⟩ (.slice a1 R.2.1.nm.length k1)).setCell ⟨w.heap.size+1,3,none⟩ (.slice a2 R.2.1.cl.length k2)).setCell ⟨w.heap.size+1,4,none⟩ (.bool R.2.1.clash)) (w.heap.size+1) 32 #[.string d.tb,.int .i64 (d.pos:Int),.slice a1 R.2.1.nm.length k1,.slice a2 R.2.1.cl.length k2,.bool R.2.1.clash]:=y4.store 4 _
 have n5:=ownsRow_setCell_below (a:=⟨w.heap.size+1,4,none⟩) n4 (by show w.heap.size+1<w.heap.size+2;omega) (.bool R.2.1.clash)
 have l5:=ownsRow_setCell_below (a:=⟨w.heap.size+1,4,none⟩) l4 (by show w.heap.size+1<w.heap.size+2;omega) (.bool R.2.1.clash)
 have b5:=Below.setCell b4 (p:=⟨w.heap.size+1,4,none⟩) (by show w.heap.size≤w.heap.size+1;omega) (.bool R.2.1.clash)
 obtain⟨WF,hWF⟩:∃ WF,(((((w6.setCell ⟨w.heap.size+1,0,none⟩ (.string d.tb)).setCell ⟨w.heap.size+1,1,none⟩ (.int .i64 (d.pos:Int))).setCell ⟨w.heap.size+1,2,none⟩ (.slice a1 R.2.1.nm.length k1)).setCell ⟨w.heap.size+1,3,none⟩ (.slice a2 R.2.1.cl.length k2)).setCell ⟨w.heap.size+1,4,none⟩ (.bool R.2.1.clash))=WF:=⟨_,rfl⟩
 rw [hWF] at y5 n5 l5 b5
 have Hy:=Lib.hid y5
 have Hn:=Lib.hid n5
 have Hl:=Lib.hid l5
 have Hbf:=Lib.hid b5
 clear y0 y1 y2 y3 y4 y5 n0 n1 n2 n3 n4 n5 l0 l1 l2 l3 l4 l5 b0 b1 b2 b3 b4 b5
 clear q6 n6 l6 hb06 hb6 Hq Hn' Hc' Hb'
 go_wp2
 all_goals
  refine bodyPost_ret (results_tct _ _ (g:=w.heap.size+1) (t:=32) rfl rfl Hy.out Tryz.underlying32 rfl (by kernel_rfl)) rfl ⟨_,_,rfl,?_,?_,?_⟩
  · exact ownsRow_weak (W:=WF) Hn.out (by omega)
  · exact ownsRow_weak (W:=WF) Hl.out (by omega)
  · exact Hbf.out
theorem keyedO_any [Sha.Words] (o:Orc) (hg:o.Good) (hm:o.m=1) (nv cv:Value) (lb c:ByteArray) (hlb:lb.size=16) (hc:c.size≤65552) (w:World) (hR:Sha.RoundIn w):
 Calls Tryz.prog 194 #[.agg (Orc.vals 1 o.key o.d.tb o.d.pos nv cv o.d.clash),.string lb,.string c] w fun e w'=>e= .returned (.tuple #[.string (o.wayO lb c).1,.int .i64 (o.wayO lb c).2])∧Below w.heap.size w w':=by
 have hway:o.wayO lb c=Seal.opens (Mac.derive o.key Orc.cname 32) lb ⟨#[]⟩ c:=by
  unfold Orc.wayO
  rw [if_pos hm]
 rw [hway]
 have hK:=fun w1 (hb:Below w.heap.size w w1)=>key_any o.key o.d.tb o.d.pos nv cv o.d.clash hg.key Orc.cname (by decide) w1 (hR.below hb)
 have hM:=fun w1 (hb:Below w.heap.size w w1)=>Open_all (Mac.derive o.key Orc.cname 32) lb ⟨#[]⟩ c (Mac.derive_size _ _ _) hlb (by decide) hc w1 (hR.below hb)
 have hb0:Below w.heap.size w (w.alloc (.cells (Orc.vals 1 o.key o.d.tb o.d.pos nv cv o.d.clash) 174)):=(Below.refl _ w).alloc (Nat.le_refl _) _
 obtain⟨m,key,d⟩:=o
 dsimp only at*
 clear hg hm hway
 generalize Mac.derive key Orc.cname 32=D at*
 generalize Seal.opens D lb ⟨#[]⟩ c=A at*
 obtain⟨A1,A2⟩:=A
 dsimp only at*
 unfold Orc.vals Orc.cname at*
 have HK:=Lib.hid hK
 have HM:=Lib.hid hM
 clear hK hM hR
 go_enter Tryz.func194,Tryz.ntmps194
 go_wp2_with fail
 refine(HK.out _ hb0).mono ?_
 rintro e w1 ⟨rfl,hb1⟩
 have hb01:=hb0.trans (hb1.mono hb0.size)
 clear hb0 hb1
 go_wp2_with fail
 refine(HM.out _ hb01).mono ?_
 rintro e w2 ⟨rfl,hb2⟩
 have Hb2:=Lib.hid (hb01.trans (hb2.mono hb01.size))
 clear hb01 hb2
 go_wp2
 go_ret2
 exact⟨rfl,Hb2.out⟩
theorem drawnL_any [Sha.Words] (o:Orc) (hg:o.Good) (hm:o.m=2) (nv cv:Value) (q:ByteArray) (hq:q.size≤100) (hl:o.d.nm.length≠2000) (w:World) (hN:NmAt w 0 nv o.d.nm) (hC:ClAt w 0 cv o.d.cl):
 Calls Tryz.prog 313 #[.agg (Orc.vals 2 o.key o.d.tb o.d.pos nv cv o.d.clash),.string q] w fun e w'=>WayIs w (o.wayL q) e w':=by
 have hway:o.wayL q=o.d.label q:=by
  unfold Orc.wayL
  rw [if_neg (by rw [hm];decide)]
 rw [hway]
 clear hway
 obtain⟨R,hRe⟩:∃ R,o.d.label q=R:=⟨_,rfl⟩
 rw [hRe]
 have hI:∀ w1,Below w.heap.size w w1→Calls Tryz.prog 201 #[.agg (Idl.vals o.d.tb o.d.pos nv cv o.d.clash),.string q] w1 fun e w'=>∃ nv' cv',e= .returned (.tuple #[.string R.1,.agg (Idl.vals R.2.1.tb R.2.1.pos nv' cv' R.2.1.clash),.int .i64 R.2.2])∧NmAt w' w1.heap.size nv' R.2.1.nm∧ClAt w' w1.heap.size cv' R.2.1.cl∧Below w1.heap.size w1 w':=by
  intro w1 hb
  rw [← hRe]
  exact Label_all o.d hg.d nv cv q hq hl w1 (owns_below hN hb) (owns_below hC hb)
 obtain⟨na,nk,rfl⟩:=slice_of hN
 obtain⟨ca,ck,rfl⟩:=slice_of hC
 clear hRe hN hC
 obtain⟨m,key,d⟩:=o
 dsimp only at*
 clear hg hl hm hq
 unfold Orc.vals Idl.vals at*
 obtain⟨p0,q0,hb0,hz0⟩:=box2 w #[.int .i64 2,.string key,.string d.tb,.int .i64 (d.pos:Int),.slice na d.nm.length nk,.slice ca d.cl.length ck,.bool d.clash] #[.string ⟨#[]⟩,.int .i64 0,.slice none 0 0,.slice none 0 0,.bool false] 175 32
 have HI:=Lib.hid hI
 clear hI
 go_enter Tryz.func313,Tryz.ntmps313
 go_wp2_with fail
 refine(HI.out _ hb0).mono ?_
 rintro e w6 ⟨nv',cv',rfl,n6,l6,hb6⟩
 obtain⟨a1,k1,rfl⟩:=slice_of n6
 obtain⟨a2,k2,rfl⟩:=slice_of l6
 rw [hz0] at n6 l6
 have q6:=q0.below hb6 q0.lt
 have hb06:Below w.heap.size w w6:=hb0.trans (hb6.mono hb0.size)
 clear p0 q0 hb0 hz0 hb6 HI
 have e0:w6.cell? ⟨w.heap.size+1,0,none⟩=some (.string ⟨#[]⟩):=q6.cell 0
 have f0:=q6.frozen 0
 have e1:w6.cell? ⟨w.heap.size+1,1,none⟩=some (.int .i64 0):=q6.cell 1
 have f1:=q6.frozen 1
 have e2:w6.cell? ⟨w.heap.size+1,2,none⟩=some (.slice none 0 0):=q6.cell 2
 have f2:=q6.frozen 2
 have e3:w6.cell? ⟨w.heap.size+1,3,none⟩=some (.slice none 0 0):=q6.cell 3
 have f3:=q6.frozen 3
 have e4:w6.cell? ⟨w.heap.size+1,4,none⟩=some (.bool false):=q6.cell 4
 have f4:=q6.frozen 4
 have y0:Row w6 (w.heap.size+1) 32 #[.string ⟨#[]⟩,.int .i64 0,.slice none 0 0,.slice none 0 0,.bool false]:=q6
 have n0:=n6
 have l0:=l6
 have b0:=hb06
 have y1:Row (w6.setCell ⟨w.heap.size+1,0,none⟩ (.string R.2.1.tb)) (w.heap.size+1) 32 #[.string R.2.1.tb,.int .i64 0,.slice none 0 0,.slice none 0 0,.bool false]:=y0.store 0 _
 have n1:=ownsRow_setCell_below (a:=⟨w.heap.size+1,0,none⟩) n0 (by show w.heap.size+1<w.heap.size+2;omega) (.string R.2.1.tb)
 have l1:=ownsRow_setCell_below (a:=⟨w.heap.size+1,0,none⟩) l0 (by show w.heap.size+1<w.heap.size+2;omega) (.string R.2.1.tb)
 have b1:=Below.setCell b0 (p:=⟨w.heap.size+1,0,none⟩) (by show w.heap.size≤w.heap.size+1;omega) (.string R.2.1.tb)
 have y2:Row ((w6.setCell ⟨w.heap.size+1,0,none⟩ (.string R.2.1.tb)).setCell ⟨w.heap.size+1,1,none⟩ (.int .i64 (R.2.1.pos:Int))) (w.heap.size+1) 32 #[.string R.2.1.tb,.int .i64 (R.2.1.pos:Int),.slice none 0 0,.slice none 0 0,.bool false]:=y1.store 1 _
 have n2:=ownsRow_setCell_below (a:=⟨w.heap.size+1,1,none⟩) n1 (by show w.heap.size+1<w.heap.size+2;omega) (.int .i64 (R.2.1.pos:Int))
 have l2:=ownsRow_setCell_below (a:=⟨w.heap.size+1,1,none⟩) l1 (by show w.heap.size+1<w.heap.size+2;omega) (.int .i64 (R.2.1.pos:Int))
 have b2:=Below.setCell b1 (p:=⟨w.heap.size+1,1,none⟩) (by show w.heap.size≤w.heap.size+1;omega) (.int .i64 (R.2.1.pos:Int))
 have y3:Row (((w6.setCell ⟨w.heap.size+1,0,none⟩ (.string R.2.1.tb)).setCell ⟨w.heap.size+1,1,none⟩ (.int .i64 (R.2.1.pos:Int))).setCell ⟨w.heap.size+1,2,none⟩ (.slice a1 R.2.1.nm.length k1)) (w.heap.size+1) 32 #[.string R.2.1.tb,.int .i64 (R.2.1.pos:Int),.slice a1 R.2.1.nm.length k1,.slice none 0 0,.bool false]:=y2.store 2 _
 have n3:=ownsRow_setCell_below (a:=⟨w.heap.size+1,2,none⟩) n2 (by show w.heap.size+1<w.heap.size+2;omega) (.slice a1 R.2.1.nm.length k1)
 have l3:=ownsRow_setCell_below (a:=⟨w.heap.size+1,2,none⟩) l2 (by show w.heap.size+1<w.heap.size+2;omega) (.slice a1 R.2.1.nm.length k1)
 have b3:=Below.setCell b2 (p:=⟨w.heap.size+1,2,none⟩) (by show w.heap.size≤w.heap.size+1;omega) (.slice a1 R.2.1.nm.length k1)
 have y4:Row ((((w6.setCell ⟨w.heap.size+1,0,none⟩ (.string R.2.1.tb)).setCell ⟨w.heap.size+1,1,none⟩ (.int .i64 (R.2.1.pos:Int))).setCell ⟨w.heap.size+1,2,none⟩ (.slice a1 R.2.1.nm.length k1)).setCell ⟨w.heap.size+1,3,none⟩ (.slice a2 R.2.1.cl.length k2)) (w.heap.size+1) 32 #[.string R.2.1.tb,.int .i64 (R.2.1.pos:Int),.slice a1 R.2.1.nm.length k1,.slice a2 R.2.1.cl.length k2,.bool false]:=y3.store 3 _
 have n4:=ownsRow_setCell_below (a:=⟨w.heap.size+1,3,none⟩) n3 (by show w.heap.size+1<w.heap.size+2;omega) (.slice a2 R.2.1.cl.length k2)
 have l4:=ownsRow_setCell_below (a:=⟨w.heap.size+1,3,none⟩) l3 (by show w.heap.size+1<w.heap.size+2;omega) (.slice a2 R.2.1.cl.length k2)
 have b4:=Below.setCell b3 (p:=⟨w.heap.size+1,3,none⟩) (by show w.heap.size≤w.heap.size+1;omega) (.slice a2 R.2.1.cl.length k2)
 have y5:Row (((((w6.setCell ⟨w.heap.size+1,0,none⟩ (.string R.2.1.tb)).setCell ⟨w.heap.size+1,1,none⟩ (.int .i64 (R.2.1.pos:Int))).setCell ⟨w.heap.size+1,2,none⟩ (.slice a1 R.2.1.nm.length k1)).setCell ⟨w.heap.size+1,3,none⟩ (.slice a2 R.2.1.cl.length k2)).setCell ⟨w.heap.size+1,4,none⟩ (.bool R.2.1.clash)) (w.heap.size+1) 32 #[.string R.2.1.tb,.int .i64 (R.2.1.pos:Int),.slice a1 R.2.1.nm.length k1,.slice a2 R.2.1.cl.length k2,.bool R.2.1.clash]:=y4.store 4 _
 have n5:=ownsRow_setCell_below (a:=⟨w.heap.size+1,4,none⟩) n4 (by show w.heap.size+1<w.heap.size+2;omega) (.bool R.2.1.clash)
 have l5:=ownsRow_setCell_below (a:=⟨w.heap.size+1,4,none⟩) l4 (by show w.heap.size+1<w.heap.size+2;omega) (.bool R.2.1.clash)
 have b5:=Below.setCell b4 (p:=⟨w.heap.size+1,4,none⟩) (by show w.heap.size≤w.heap.size+1;omega) (.bool R.2.1.clash)
 obtain⟨WF,hWF⟩:∃ WF,(((((w6.setCell ⟨w.heap.size+1,0,none⟩ (.string R.2.1.tb)).setCell ⟨w.heap.size+1,1,none⟩ (.int .i64 (R.2.1.pos:Int))).setCell ⟨w.heap.size+1,2,none⟩ (.slice a1 R.2.1.nm.length k1)).setCell ⟨w.heap.size+1,3,none⟩ (.slice a2 R.2.1.cl.length k2)).setCell ⟨w.heap.size+1,4,none⟩ (.bool R.2.1.clash))=WF:=⟨_,rfl⟩
 rw [hWF] at y5 n5 l5 b5
 have Hy:=Lib.hid y5
 have Hn:=Lib.hid n5
 have Hl:=Lib.hid l5
 have Hbf:=Lib.hid b5
 clear y0 y1 y2 y3 y4 y5 n0 n1 n2 n3 n4 n5 l0 l1 l2 l3 l4 l5 b0 b1 b2 b3 b4 b5
 clear q6 n6 l6 hb06
 go_wp2
 all_goals
  refine bodyPost_ret (results_tct _ _ (g:=w.heap.size+1) (t:=32) rfl rfl Hy.out Tryz.underlying32 rfl (by kernel_rfl)) rfl ⟨_,_,rfl,?_,?_,?_⟩
  · exact ownsRow_weak (W:=WF) Hn.out (by omega)
  · exact ownsRow_weak (W:=WF) Hl.out (by omega)
  · exact Hbf.out
theorem drawnC_any [Sha.Words] (o:Orc) (hg:o.Good) (hm:o.m=2) (nv cv:Value) (lb tx:ByteArray) (hlb:lb.size=16) (htx:tx.size=24) (hl:o.d.cl.length≠2000) (hp:o.d.pos+40≤o.d.tb.size) (w:World) (hN:NmAt w 0 nv o.d.nm) (hC:ClAt w 0 cv o.d.cl):
 Calls Tryz.prog 312 #[.agg (Orc.vals 2 o.key o.d.tb o.d.pos nv cv o.d.clash),.string lb,.string tx] w fun e w'=>WayIs w (o.wayC lb tx) e w':=by
 have hway:o.wayC lb tx=o.d.cell lb tx:=by
  unfold Orc.wayC
  rw [if_neg (by rw [hm];decide)]
 rw [hway]
 clear hway
 obtain⟨R,hRe⟩:∃ R,o.d.cell lb tx=R:=⟨_,rfl⟩
 rw [hRe]
 have hI:∀ w1,Below w.heap.size w w1→Calls Tryz.prog 196 #[.agg (Idl.vals o.d.tb o.d.pos nv cv o.d.clash),.string lb,.string tx] w1 fun e w'=>∃ nv' cv',e= .returned (.tuple #[.string R.1,.agg (Idl.vals R.2.1.tb R.2.1.pos nv' cv' R.2.1.clash),.int .i64 R.2.2])∧NmAt w' w1.heap.size nv' R.2.1.nm∧ClAt w' w1.heap.size cv' R.2.1.cl∧Below w1.heap.size w1 w':=by
  intro w1 hb
  rw [← hRe]
  exact Cell_all o.d hg.d nv cv lb tx hlb htx hl hp w1 (owns_below hN hb) (owns_below hC hb)
 obtain⟨na,nk,rfl⟩:=slice_of hN
 obtain⟨ca,ck,rfl⟩:=slice_of hC
 clear hRe hN hC
 obtain⟨m,key,d⟩:=o
 dsimp only at*
 clear hg hl hm hlb htx hp
 unfold Orc.vals Idl.vals at*
 obtain⟨p0,q0,hb0,hz0⟩:=box2 w #[.int .i64 2,.string key,.string d.tb,.int .i64 (d.pos:Int),.slice na d.nm.length nk,.slice ca d.cl.length ck,.bool d.clash] #[.string ⟨#[]⟩,.int .i64 0,.slice none 0 0,.slice none 0 0,.bool false] 175 32
 have HI:=Lib.hid hI
 clear hI
 go_enter Tryz.func312,Tryz.ntmps312
 go_wp2_with fail
 refine(HI.out _ hb0).mono ?_
 rintro e w6 ⟨nv',cv',rfl,n6,l6,hb6⟩
 obtain⟨a1,k1,rfl⟩:=slice_of n6
 obtain⟨a2,k2,rfl⟩:=slice_of l6
 rw [hz0] at n6 l6
 have q6:=q0.below hb6 q0.lt
 have hb06:Below w.heap.size w w6:=hb0.trans (hb6.mono hb0.size)
 clear p0 q0 hb0 hz0 hb6 HI
 have e0:w6.cell? ⟨w.heap.size+1,0,none⟩=some (.string ⟨#[]⟩):=q6.cell 0
 have f0:=q6.frozen 0
 have e1:w6.cell? ⟨w.heap.size+1,1,none⟩=some (.int .i64 0):=q6.cell 1
 have f1:=q6.frozen 1
 have e2:w6.cell? ⟨w.heap.size+1,2,none⟩=some (.slice none 0 0):=q6.cell 2
 have f2:=q6.frozen 2
 have e3:w6.cell? ⟨w.heap.size+1,3,none⟩=some (.slice none 0 0):=q6.cell 3
 have f3:=q6.frozen 3
 have e4:w6.cell? ⟨w.heap.size+1,4,none⟩=some (.bool false):=q6.cell 4
 have f4:=q6.frozen 4
 have y0:Row w6 (w.heap.size+1) 32 #[.string ⟨#[]⟩,.int .i64 0,.slice none 0 0,.slice none 0 0,.bool false]:=q6
 have n0:=n6
 have l0:=l6
 have b0:=hb06
 have y1:Row (w6.setCell ⟨w.heap.size+1,0,none⟩ (.string R.2.1.tb)) (w.heap.size+1) 32 #[.string R.2.1.tb,.int .i64 0,.slice none 0 0,.slice none 0 0,.bool false]:=y0.store 0 _
 have n1:=ownsRow_setCell_below (a:=⟨w.heap.size+1,0,none⟩) n0 (by show w.heap.size+1<w.heap.size+2;omega) (.string R.2.1.tb)
 have l1:=ownsRow_setCell_below (a:=⟨w.heap.size+1,0,none⟩) l0 (by show w.heap.size+1<w.heap.size+2;omega) (.string R.2.1.tb)
 have b1:=Below.setCell b0 (p:=⟨w.heap.size+1,0,none⟩) (by show w.heap.size≤w.heap.size+1;omega) (.string R.2.1.tb)
 have y2:Row ((w6.setCell ⟨w.heap.size+1,0,none⟩ (.string R.2.1.tb)).setCell ⟨w.heap.size+1,1,none⟩ (.int .i64 (R.2.1.pos:Int))) (w.heap.size+1) 32 #[.string R.2.1.tb,.int .i64 (R.2.1.pos:Int),.slice none 0 0,.slice none 0 0,.bool false]:=y1.store 1 _
 have n2:=ownsRow_setCell_below (a:=⟨w.heap.size+1,1,none⟩) n1 (by show w.heap.size+1<w.heap.size+2;omega) (.int .i64 (R.2.1.pos:Int))
 have l2:=ownsRow_setCell_below (a:=⟨w.heap.size+1,1,none⟩) l1 (by show w.heap.size+1<w.heap.size+2;omega) (.int .i64 (R.2.1.pos:Int))
 have b2:=Below.setCell b1 (p:=⟨w.heap.size+1,1,none⟩) (by show w.heap.size≤w.heap.size+1;omega) (.int .i64 (R.2.1.pos:Int))
 have y3:Row (((w6.setCell ⟨w.heap.size+1,0,none⟩ (.string R.2.1.tb)).setCell ⟨w.heap.size+1,1,none⟩ (.int .i64 (R.2.1.pos:Int))).setCell ⟨w.heap.size+1,2,none⟩ (.slice a1 R.2.1.nm.length k1)) (w.heap.size+1) 32 #[.string R.2.1.tb,.int .i64 (R.2.1.pos:Int),.slice a1 R.2.1.nm.length k1,.slice none 0 0,.bool false]:=y2.store 2 _
 have n3:=ownsRow_setCell_below (a:=⟨w.heap.size+1,2,none⟩) n2 (by show w.heap.size+1<w.heap.size+2;omega) (.slice a1 R.2.1.nm.length k1)
 have l3:=ownsRow_setCell_below (a:=⟨w.heap.size+1,2,none⟩) l2 (by show w.heap.size+1<w.heap.size+2;omega) (.slice a1 R.2.1.nm.length k1)
 have b3:=Below.setCell b2 (p:=⟨w.heap.size+1,2,none⟩) (by show w.heap.size≤w.heap.size+1;omega) (.slice a1 R.2.1.nm.length k1)
 have y4:Row ((((w6.setCell ⟨w.heap.size+1,0,none⟩ (.string R.2.1.tb)).setCell ⟨w.heap.size+1,1,none⟩ (.int .i64 (R.2.1.pos:Int))).setCell ⟨w.heap.size+1,2,none⟩ (.slice a1 R.2.1.nm.length k1)).setCell ⟨w.heap.size+1,3,none⟩ (.slice a2 R.2.1.cl.length k2)) (w.heap.size+1) 32 #[.string R.2.1.tb,.int .i64 (R.2.1.pos:Int),.slice a1 R.2.1.nm.length k1,.slice a2 R.2.1.cl.length k2,.bool false]:=y3.store 3 _
 have n4:=ownsRow_setCell_below (a:=⟨w.heap.size+1,3,none⟩) n3 (by show w.heap.size+1<w.heap.size+2;omega) (.slice a2 R.2.1.cl.length k2)
 have l4:=ownsRow_setCell_below (a:=⟨w.heap.size+1,3,none⟩) l3 (by show w.heap.size+1<w.heap.size+2;omega) (.slice a2 R.2.1.cl.length k2)
 have b4:=Below.setCell b3 (p:=⟨w.heap.size+1,3,none⟩) (by show w.heap.size≤w.heap.size+1;omega) (.slice a2 R.2.1.cl.length k2)
 have y5:Row (((((w6.setCell ⟨w.heap.size+1,0,none⟩ (.string R.2.1.tb)).setCell ⟨w.heap.size+1,1,none⟩ (.int .i64 (R.2.1.pos:Int))).setCell ⟨w.heap.size+1,2,none⟩ (.slice a1 R.2.1.nm.length k1)).setCell ⟨w.heap.size+1,3,none⟩ (.slice a2 R.2.1.cl.length k2)).setCell ⟨w.heap.size+1,4,none⟩ (.bool R.2.1.clash)) (w.heap.size+1) 32 #[.string R.2.1.tb,.int .i64 (R.2.1.pos:Int),.slice a1 R.2.1.nm.length k1,.slice a2 R.2.1.cl.length k2,.bool R.2.1.clash]:=y4.store 4 _
 have n5:=ownsRow_setCell_below (a:=⟨w.heap.size+1,4,none⟩) n4 (by show w.heap.size+1<w.heap.size+2;omega) (.bool R.2.1.clash)
 have l5:=ownsRow_setCell_below (a:=⟨w.heap.size+1,4,none⟩) l4 (by show w.heap.size+1<w.heap.size+2;omega) (.bool R.2.1.clash)
 have b5:=Below.setCell b4 (p:=⟨w.heap.size+1,4,none⟩) (by show w.heap.size≤w.heap.size+1;omega) (.bool R.2.1.clash)
 obtain⟨WF,hWF⟩:∃ WF,(((((w6.setCell ⟨w.heap.size+1,0,none⟩ (.string R.2.1.tb)).setCell ⟨w.heap.size+1,1,none⟩ (.int .i64 (R.2.1.pos:Int))).setCell ⟨w.heap.size+1,2,none⟩ (.slice a1 R.2.1.nm.length k1)).setCell ⟨w.heap.size+1,3,none⟩ (.slice a2 R.2.1.cl.length k2)).setCell ⟨w.heap.size+1,4,none⟩ (.bool R.2.1.clash))=WF:=⟨_,rfl⟩
 rw [hWF] at y5 n5 l5 b5
 have Hy:=Lib.hid y5
 have Hn:=Lib.hid n5
 have Hl:=Lib.hid l5
 have Hbf:=Lib.hid b5
 clear y0 y1 y2 y3 y4 y5 n0 n1 n2 n3 n4 n5 l0 l1 l2 l3 l4 l5 b0 b1 b2 b3 b4 b5
 clear q6 n6 l6 hb06
 go_wp2
 all_goals
  refine bodyPost_ret (results_tct _ _ (g:=w.heap.size+1) (t:=32) rfl rfl Hy.out Tryz.underlying32 rfl (by kernel_rfl)) rfl ⟨_,_,rfl,?_,?_,?_⟩
  · exact ownsRow_weak (W:=WF) Hn.out (by omega)
  · exact ownsRow_weak (W:=WF) Hl.out (by omega)
  · exact Hbf.out
theorem drawnO_any [Sha.Words] (o:Orc) (hg:o.Good) (hm:o.m=2) (nv cv:Value) (lb c:ByteArray) (w:World) (hN:NmAt w 0 nv o.d.nm) (hC:ClAt w 0 cv o.d.cl):
 Calls Tryz.prog 314 #[.agg (Orc.vals 2 o.key o.d.tb o.d.pos nv cv o.d.clash),.string lb,.string c] w fun e w'=>e= .returned (.tuple #[.string (o.wayO lb c).1,.int .i64 (o.wayO lb c).2])∧Below w.heap.size w w':=by
 have hway:o.wayO lb c=o.d.opens lb c:=by
  unfold Orc.wayO
  rw [if_neg (by rw [hm];decide)]
 rw [hway]
 have hb0:Below w.heap.size w (w.alloc (.cells (Orc.vals 2 o.key o.d.tb o.d.pos nv cv o.d.clash) 175)):=(Below.refl _ w).alloc (Nat.le_refl _) _
 have hM:=idealOpen_any o.d hg.d nv cv lb c (w.alloc (.cells (Orc.vals 2 o.key o.d.tb o.d.pos nv cv o.d.clash) 175)) (owns_below hN hb0) (owns_below hC hb0)
 obtain⟨na,nk,rfl⟩:=slice_of hN
 obtain⟨ca,ck,rfl⟩:=slice_of hC
 obtain⟨m,key,d⟩:=o
 dsimp only at*
 clear hg hm hway hN hC
 generalize d.opens lb c=A at*
 obtain⟨A1,A2⟩:=A
 dsimp only at*
 unfold Orc.vals Idl.vals at*
 have HM:=Lib.hid hM
 clear hM
 go_enter Tryz.func314,Tryz.ntmps314
 go_wp2_with fail
 refine HM.out.mono ?_
 rintro e w2 ⟨rfl,hb2⟩
 have Hb2:=Lib.hid (hb0.trans (hb2.mono hb0.size))
 clear hb0 hb2
 go_wp2
 go_ret2
 exact⟨rfl,Hb2.out⟩
def fourB (n:Nat):List Nat:=[n / 16777216%256,n / 65536%256,n / 256%256,n%256]
theorem four_any (n:Nat) (hn:n≤1000000) (w:World):
 Calls Tryz.prog 132 #[.int .i64 (n:Int)] w fun e w'=>e= .returned (.slice (some ⟨w.heap.size,0,none⟩) 4 4)∧w'=w.alloc (.cells ((fourB n).map U).toArray 5):=by
 have he:((fourB n).map U).toArray=#[.int .u8 ((n:Int) / 16777216),.int .u8 ((n:Int) / 65536),.int .u8 ((n:Int) / 256%256),.int .u8 ((n:Int)%256)]:=by
  have h1:((n / 16777216%256:Nat):Int)=(n:Int) / 16777216:=by omega
  have h2:((n / 65536%256:Nat):Int)=(n:Int) / 65536:=by omega
  have h3:((n / 256%256:Nat):Int)=(n:Int) / 256%256:=by omega
  have h4:((n%256:Nat):Int)=(n:Int)%256:=by omega
  rw [← h1,← h2,← h3,← h4]
  rfl
 rw [he]
 clear he
 go_enter Tryz.func132,Tryz.ntmps132
 go_wp2
 go_ret
 exact⟨rfl,rfl⟩
def renGrow:Go.Shelf.Ren:=⟨fun | 4=>146 | n=>n,fun | 0=>0 | 3=>3 | 4=>4 | 9=>9 | 20=>20 | 22=>42 | 25=>5 | n=>n,fun n=>n⟩
theorem layGrow:Lays8.n4 Tryz.prog renGrow:={
 mixed:=by kernel_rfl
 f4:=⟨Tryz.f146.name,by decide,Tryz.func146.trans (congrArg some (by kernel_rfl))⟩
 t0:=Tryz.underlying0
 a0:=Tryz.isAgg0
 z0:=Tryz.sizeOf0
 v0:=Tryz.zeroValue0
 t3:=Tryz.underlying3
 a3:=Tryz.isAgg3
 z3:=Tryz.sizeOf3
 v3:=Tryz.zeroValue3
 t4:=Tryz.underlying4
 a4:=Tryz.isAgg4
 z4:=Tryz.sizeOf4
 v4:=Tryz.zeroValue4
 t9:=Tryz.underlying9
 a9:=Tryz.isAgg9
 z9:=Tryz.sizeOf9
 v9:=Tryz.zeroValue9
 t20:=Tryz.underlying20
 a20:=Tryz.isAgg20
 z20:=Tryz.sizeOf20
 v20:=Tryz.zeroValue20
 t22:=Tryz.underlying42
 a22:=Tryz.isAgg42
 z22:=Tryz.sizeOf42
 v22:=Tryz.zeroValue42 }
def cat (L:Nat→List Nat):Nat→List Nat
 | 0=>[]
 | n+1=>cat L n++L n
theorem cat_length_le {L:Nat→List Nat} {k:Nat} (hl:∀ j,j<k→(L j).length≤1000):∀ j,j≤k→(cat L j).length≤1000*j
 | 0,_=>by simp [cat]
 | j+1,h=>by
   have h1:=cat_length_le hl j (by omega)
   have h2:=hl j (by omega)
   simp only [cat,List.length_append]
   omega
def Part (W:World) (v:Value) (l:List Nat):Prop:=∃ ad c,v= .slice (some ad) l.length c∧∀ j u,(l.map U)[j]? =some u→W.cell? (ad.add j)=some u
theorem Part.below {W W':World} {v:Value} {l:List Nat} (h:Part W v l) (hb:Below W.heap.size W W'):Part W' v l:=by
 obtain⟨ad,c,hv,hc⟩:=h
 exact⟨ad,c,hv,fun j u hu=>cell_below hb (hc j u hu)⟩
theorem Concat_any (k:Nat) (L:Nat→List Nat) (V:Nat→Value) (hk:k≤10) (hl:∀ j,j<k→(L j).length≤1000) (w:World) (hV:∀ j,j<k→Part w (V j) (L j)) (hp kc:Nat) (hrow:∀ j,j<k→w.cell? ⟨hp,j,none⟩=some (V j)) (hpos:0<(cat L k).length):
 Calls Tryz.prog 131 #[.slice (some ⟨hp,0,none⟩) k kc] w fun e w'=>∃ v,e= .returned v∧w'.ownsRow w.heap.size 5 1 v (cat L k).length ((cat L k).map U)∧Below w.heap.size w w':=by
 obtain⟨i0,hi,hz0,hz1,hz2⟩:=info_parts (show(Tryz.prog.info? 5).map (fun i=>(i.zero,i.size,i.bytes))=some (some (.int .u8 0),1,1) by kernel_rfl)
 have hcl:=cat_length_le hl
 have hlk:=hcl k (Nat.le_refl _)
 have HV:=Lib.hid hV
 have HR:=Lib.hid hrow
 have Hpos:=Lib.hid hpos
 have Hl:=Lib.hid hl
 have Hcl:=Lib.hid hcl
 have Hlk:=Lib.hid hlk
 have HI:=Lib.hid (And.intro hi (And.intro hz0 (And.intro hz1 hz2)))
 clear hV hrow hpos hl hcl hlk hi hz0 hz1 hz2
 go_enter Tryz.func131,Tryz.ntmps131
 go_wp2
 go_loopg [3,11] k (fun kk s c wr=>∃ j,kk=k-j∧j≤k∧s= .int .i64 ((cat L j).length:Int)∧c= .int .i64 (j:Int)∧w=wr)
 case atStart=>exact⟨0,rfl,Nat.zero_le _,rfl,rfl,rfl⟩
 case round=>
  obtain⟨j,hkk,hj,rfl,rfl,rfl⟩:=hrel
  by_cases hlt:j<k
  · have hlt':(j:Int)<(k:Int):=by omega
    obtain⟨ad,c,hv,-⟩:=HV.out j hlt
    have hx:=HR.out j hlt
    rw [hv] at hx
    have hlen:(cat L (j+1)).length=(cat L j).length+(L j).length:=by simp [cat]
    have hb1:=Hcl.out (j+1) (by omega)
    have Hlen:=Lib.hid hlen
    have hb2:(cat L j).length+(L j).length≤10000:=by omega
    clear hlen hb1 hv
    go_wp2
    go_roundg (k-(j+1))
    case measure=>omega
    case rel=>exact⟨j+1,rfl,by omega,by rw [Hlen.out];simp,by simp,rfl⟩
  · obtain rfl:k=j:=by omega
    have hG:=Any8.slices_Grow_grow layGrow i0 (.int .u8 0) HI.out.1 HI.out.2.1 (by rw [HI.out.2.2.1];decide) none 0 0 (cat L k).length [] w (Nat.le_refl _) (by have:=Hpos.out;omega) (by rw [HI.out.2.2.2];have:=Hlk.out;omega) (by have:=Hlk.out;omega) (by simp) (fun _=>rfl) (fun _ h=>by cases h)
    have HG:=Lib.hid hG
    clear hG hkk hj hlt
    go_wp2_with fail
    refine HG.out.mono ?_
    rintro e w1 ⟨rfl,hw1⟩
    have hown:w1.ownsRow w.heap.size 5 1 (.slice (some ⟨w.heap.size,0,none⟩) 0 (grownCap w (0+(cat L k).length) 0 (renGrow.t 25))) 0 []:=by
     refine⟨rfl,.inr ⟨w.heap.size,_,_,rfl,Nat.le_refl _,by rw [hw1];exact heap_alloc_new w.drew _,Nat.zero_le _,?_,?_,rfl⟩⟩
     · have:=Hlk.out
       exact grownCap_le_maxLen w _ _ _ (by unfold maxLen;omega)
     · have hge:(0+(cat L k).length)≤grownCap w (0+(cat L k).length) 0 5:=grownCap_ge w _ _ _
       have hge2:(0+(cat L k).length)≤grownCap w (0+(cat L k).length) 0 (renGrow.t 25):=hge
       have hz1:(Value.int IntKind.u8 0).cells.size=1:=rfl
       show(_++_++_:Array Value).size=_
       simp only [Array.size_append,size_zeroCells,hz1,List.size_toArray,List.length_nil]
       show _=grownCap w (0+(cat L k).length) 0 (renGrow.t 25)*1
       omega
    have hb1:Below w.heap.size w w1:=by rw [hw1];exact((Below.refl _ w).drew).alloc (Nat.le_refl _) _
    have Hown:=Lib.hid hown
    have Hb1:=Lib.hid hb1
    clear hown hb1 hw1
    generalize grownCap w (0+(cat L k).length) 0 (renGrow.t 25)=G at*
    go_wp2
    go_loopg [6,27] k (fun kk d c wr=>∃ j,kk=k-j∧j≤k∧c= .int .i64 (j:Int)∧wr.ownsRow w.heap.size 5 1 d (cat L j).length ((cat L j).map U)∧Below w.heap.size w wr)
    case atStart=>exact⟨0,rfl,Nat.zero_le _,rfl,Hown.out,Hb1.out⟩
    case round=>
     obtain⟨j,hkk,hj,rfl,hd,hbr⟩:=hrel
     have Hd:=Lib.hid hd
     have Hbr:=Lib.hid hbr
     clear hd hbr
     by_cases hlt:j<k
     · have hlt':(j:Int)<(k:Int):=by omega
       obtain⟨ad,c,hv,hcs⟩:=(HV.out j hlt)
       have hx:=HR.out j hlt
       rw [hv] at hx
       have hx2:=cell_below Hbr.out hx
       have hcs2:∀ i u,((L j).map U)[i]? =some u→wr.cell? (ad.add i)=some u:=fun i u hu=>cell_below Hbr.out (hcs i u hu)
       have hlen:(cat L (j+1)).length=(cat L j).length+(L j).length:=by simp [cat]
       have hcb:=Hcl.out (j+1) (by omega)
       have Hlen:=Lib.hid hlen
       have Hcb:=Lib.hid hcb
       have Hcs2:=Lib.hid hcs2
       clear hlen hcb hv hx hcs hcs2
       go_wp2_with (at_builtin;go_must (refine wpList_append_own _ rfl _ _ 42 rfl w.heap.size 5 i0 _ 1 1 Tryz.underlying42 HI.out.1 HI.out.2.1 HI.out.2.2.1 HI.out.2.2.2 rfl (by decide) _ _ _ rfl Hd.out ad (L j).length c ((L j).map U) rfl (by simp) Hcs2.out (fun u hu=>by obtain⟨x,_,rfl⟩:=List.mem_map.1 hu;rfl) (by have h1:=Hcb.out;have h2:=Hlen.out;unfold maxLen;omega) (by have h1:=Hcb.out;have h2:=Hlen.out;omega) Hbr.out.size ?_))
       intro v' w' hown' hgr _
       have hb':Below w.heap.size w w':=Hbr.out.trans (keep_below (B:=w.heap.size) (keep_grown hgr) (fun b hb h=>by have:=own_block_ge Hd.out h;omega) Hbr.out.size)
       have Ho':=Lib.hid hown'
       have Hb':=Lib.hid hb'
       clear hown' hb' hgr
       go_wp2
       go_roundg (k-(j+1))
       case measure=>omega
       case rel=>
        refine⟨j+1,rfl,by omega,by simp,?_,Hb'.out⟩
        have h:=Ho'.out
        rw [← List.map_append,← Hlen.out] at h
        exact h
     · obtain rfl:k=j:=by omega
       go_wp2
       go_ret
       exact⟨_,rfl,Hd.out,Hbr.out⟩
def askB (word:ByteArray) (e c:Nat):List Nat:=[word.size]++bytesOf word++fourB e++fourB c
def asked (word:ByteArray) (e c:Nat):ByteArray:=strOf (askB word e c)
theorem askB_length (word:ByteArray) (e c:Nat):(askB word e c).length=word.size+9:=by
 simp [askB,fourB,bytesOf_length]
theorem part_row {W:World} {g:Nat} {l:List Nat} (h:Row W g 5 (l.map U).toArray) (c:Nat):Part W (.slice (some ⟨g,0,none⟩) l.length c) l:=by
 refine⟨_,c,rfl,fun j u hu=> ?_⟩
 rw [Addr.add_lit,Nat.zero_add,h.cell j]
 simpa using hu
theorem part_cells {W:World} {g:Nat} {s:ByteArray} (h:∀ j,j<s.size→W.cell? ⟨g,j,none⟩=some (U ((bytesOf s).getD j 0))) (c:Nat):Part W (.slice (some ⟨g,0,none⟩) s.size c) (bytesOf s):=by
 refine⟨⟨g,0,none⟩,c,by rw [bytesOf_length],fun j u hu=> ?_⟩
 have hj:j<(bytesOf s).length:=by
  have h1:=(List.getElem?_eq_some_iff.1 hu).1
  simpa using h1
 rw [Addr.add_lit,Nat.zero_add,h j (by rw [← bytesOf_length];exact hj)]
 rw [List.getElem?_map,List.getElem?_eq_getElem hj] at hu
 rw [List.getD_eq_getElem?_getD,List.getElem?_eq_getElem hj]
 exact hu
def askL (word:ByteArray) (e c:Nat):Nat→List Nat
 | 0=>[word.size]
 | 1=>bytesOf word
 | 2=>fourB e
 | _=>fourB c
def askV (n len cap:Nat):Nat→Value
 | 0=> .slice (some ⟨n,0,none⟩) 1 1
 | 1=> .slice (some ⟨n+1,0,none⟩) len cap
 | 2=> .slice (some ⟨n+1+1,0,none⟩) 4 4
 | _=> .slice (some ⟨n+1+1+1,0,none⟩) 4 4
theorem cat_ask (word:ByteArray) (e c:Nat):cat (askL word e c) 4=askB word e c:=by simp [cat,askL,askB]
def AskLaid (w:World) (word:ByteArray) (e c cap:Nat) (W:World):Prop:=
 (∀ j,j<4→Part W (askV w.heap.size word.size cap j) (askL word e c j))∧(∀ j,j<4→W.cell? ⟨w.heap.size+1+1+1+1,j,none⟩=some (askV w.heap.size word.size cap j))∧Below w.heap.size w W
theorem ask_laid (word:ByteArray) (e c cap:Nat) (w W2:World) (hb2:Below (w.alloc (.cells #[.int .u8 (word.size:Int)] 5)).heap.size (w.alloc (.cells #[.int .u8 (word.size:Int)] 5)) W2) (hz2:W2.heap.size=(w.alloc (.cells #[.int .u8 (word.size:Int)] 5)).heap.size+1)
 (hcells2:∀ j,j<word.size→W2.cell? ⟨(w.alloc (.cells #[.int .u8 (word.size:Int)] 5)).heap.size,j,none⟩=some (U ((bytesOf word).getD j 0))):
 AskLaid w word e c cap (((W2.alloc (.cells ((fourB e).map U).toArray 5)).alloc (.cells ((fourB c).map U).toArray 5)).alloc (.cells #[.slice (some ⟨w.heap.size,0,none⟩) 1 1,.slice (some ⟨w.heap.size+1,0,none⟩) word.size cap,.slice (some ⟨w.heap.size+1+1,0,none⟩) 4 4,.slice (some ⟨w.heap.size+1+1+1,0,none⟩) 4 4] 42)):=by
 have hz:(w.alloc (.cells #[.int .u8 (word.size:Int)] 5)).heap.size=w.heap.size+1:=World.size_alloc _ _
 have hn2:W2.heap.size=w.heap.size+1+1:=by rw [hz2,hz]
 have r0:Row (w.alloc (.cells #[.int .u8 (word.size:Int)] 5)) w.heap.size 5 #[.int .u8 (word.size:Int)]:=Row.new w _ _
 have r2:=r0.below hb2 r0.lt
 have c2:=part_cells hcells2 cap
 rw [hz] at c2
 have r3:Row (W2.alloc (.cells ((fourB e).map U).toArray 5)) W2.heap.size 5 ((fourB e).map U).toArray:=Row.new W2 _ _
 have r4:Row ((W2.alloc (.cells ((fourB e).map U).toArray 5)).alloc (.cells ((fourB c).map U).toArray 5)) (W2.alloc (.cells ((fourB e).map U).toArray 5)).heap.size 5 ((fourB c).map U).toArray:=Row.new _ _ _
 have r5:Row (((W2.alloc (.cells ((fourB e).map U).toArray 5)).alloc (.cells ((fourB c).map U).toArray 5)).alloc (.cells #[.slice (some ⟨w.heap.size,0,none⟩) 1 1,.slice (some ⟨w.heap.size+1,0,none⟩) word.size cap,.slice (some ⟨w.heap.size+1+1,0,none⟩) 4 4,.slice (some ⟨w.heap.size+1+1+1,0,none⟩) 4 4] 42)) ((W2.alloc (.cells ((fourB e).map U).toArray 5)).alloc (.cells ((fourB c).map U).toArray 5)).heap.size 42 #[.slice (some ⟨w.heap.size,0,none⟩) 1 1,.slice (some ⟨w.heap.size+1,0,none⟩) word.size cap,.slice (some ⟨w.heap.size+1+1,0,none⟩) 4 4,.slice (some ⟨w.heap.size+1+1+1,0,none⟩) 4 4]:=Row.new _ _ _
 have hb25:Below W2.heap.size W2 (((W2.alloc (.cells ((fourB e).map U).toArray 5)).alloc (.cells ((fourB c).map U).toArray 5)).alloc (.cells #[.slice (some ⟨w.heap.size,0,none⟩) 1 1,.slice (some ⟨w.heap.size+1,0,none⟩) word.size cap,.slice (some ⟨w.heap.size+1+1,0,none⟩) 4 4,.slice (some ⟨w.heap.size+1+1+1,0,none⟩) 4 4] 42)):=(((Below.refl _ W2).alloc (Nat.le_refl _) _).alloc (by rw [World.size_alloc];omega) _).alloc (by rw [World.size_alloc,World.size_alloc];omega) _
 have hb0:Below w.heap.size w (w.alloc (.cells #[.int .u8 (word.size:Int)] 5)):=(Below.refl _ w).alloc (Nat.le_refl _) _
 rw [hn2] at r3
 rw [World.size_alloc,hn2] at r4
 rw [World.size_alloc,World.size_alloc,hn2] at r5
 refine⟨fun j hj=> ?_,fun j hj=> ?_,(hb0.trans (hb2.mono hb0.size)).trans (hb25.mono (by rw [hn2];omega))⟩
 · rcases j with _ | _ | _ | _ | j
   · exact part_row (l:=[word.size]) (((r2.alloc _).alloc _).alloc _) 1
   · exact c2.below hb25
   · exact part_row (l:=fourB e) ((r3.alloc _).alloc _) 4
   · exact part_row (l:=fourB c) (r4.alloc _) 4
   · omega
 · rw [r5.cell j]
   rcases j with _ | _ | _ | _ | j
   · rfl
   · rfl
   · rfl
   · rfl
   · omega
theorem Concat_ask (word:ByteArray) (e c cap:Nat) (hw:word.size≤20) (w W:World) (h:AskLaid w word e c cap W):
 Calls Tryz.prog 131 #[.slice (some ⟨w.heap.size+1+1+1+1,0,none⟩) 4 4] W fun x w'=>∃ v,x= .returned v∧w'.ownsRow W.heap.size 5 1 v (askB word e c).length ((askB word e c).map U)∧Below W.heap.size W w':=by
 have hC:=Concat_any 4 (askL word e c) (askV w.heap.size word.size cap) (by decide) (fun j hj=>by
  rcases j with _ | _ | _ | _ | j
  · show [word.size].length≤1000
    simp
  · show(bytesOf word).length≤1000
    rw [bytesOf_length]
    omega
  · show(fourB e).length≤1000
    simp [fourB]
  · show(fourB c).length≤1000
    simp [fourB]
  · omega) W h.1 _ 4 h.2.1 (by rw [cat_ask,askB_length];omega)
 rw [cat_ask] at hC
 exact hC
theorem Ask_ok (word:ByteArray) (e c:Nat) (hw:word.size≤20) (he:e≤1000000) (hc:c≤1000000) (w:World):
 Calls Tryz.prog 112 #[.string word,.int .i64 (e:Int),.int .i64 (c:Int)] w fun x w'=>x= .returned (.tuple #[.string (asked word e c),.int .i64 0])∧Below w.heap.size w w':=by
 obtain⟨W2,cap,hcv,hb2,hz2,hcells2⟩:=conv_bytes (P:=Tryz.prog) (src:=9) (dst:=42) Tryz.underlying9 Tryz.underlying42 Tryz.underlying5 word (w.alloc (.cells #[.int .u8 (word.size:Int)] 5))
 have hF1:=four_any e he W2
 have hF2:=four_any c hc (W2.alloc (.cells ((fourB e).map U).toArray 5))
 have HF1:=Lib.hid hF1
 have HF2:=Lib.hid hF2
 have Hb2:=Lib.hid hb2
 have Hc2:=Lib.hid hcells2
 clear hF1 hF2 hb2 hcells2
 have m1:¬ ((word.size:Int) > 20):=by omega
 have m2:¬ (min (e:Int) (c:Int)<0):=by omega
 have m3:¬ (max (e:Int) (c:Int) > 1000000):=by omega
 go_enter Tryz.func112,Tryz.ntmps112
 go_wp2_with fail
 refine HF1.out.mono ?_
 rintro x w3 ⟨rfl,rfl⟩
 go_wp2_with fail
 refine HF2.out.mono ?_
 rintro x w4 ⟨rfl,rfl⟩
 have hLd:=ask_laid word e c cap w W2 Hb2.out hz2 Hc2.out
 have Hb5:=Lib.hid hLd.2.2
 have HC:=Lib.hid (Concat_ask word e c cap hw w _ hLd)
 clear hLd hcv Hb2 Hc2
 go_wp2_with fail
 refine HC.out.mono ?_
 rintro x w6 ⟨v,rfl,hown,hb6⟩
 have ht:=owned_text (R:=askB word e c) rfl hown
 have Hb6:=Lib.hid (Hb5.out.trans (hb6.mono Hb5.out.size))
 obtain⟨a6,k6,rfl⟩:=slice_of hown
 clear hown hb6 HC Hb5
 go_wp2
 go_ret2
 exact⟨rfl,Hb6.out⟩
end Go.Proofs.YtpnbkfboneabaaaGreat
