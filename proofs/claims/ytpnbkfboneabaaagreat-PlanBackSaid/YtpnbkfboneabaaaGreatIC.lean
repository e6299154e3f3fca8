import Derived.Test.YtpnbkfboneabaaaGreatIB
import Derived.Deep.RegionLaw
set_option maxRecDepth 100000
set_option maxHeartbeats 16000000
namespace Go.Proofs.YtpnbkfboneabaaaGreat
open Go.RowKit
theorem step_append_own {P:Program} {ops:Array Oper} {o:Oper} {a:Act} {w:World} {K:Act→World→Prop} {Q:Exit→Act→World→Prop} {E:Prop} (hg:o.guard=none) (s x:Operand) (t:TypeId)
 (ho:o.op= .call { callee:= .builtin .append,args:=#[s,x],argTypes:=#[t,t] })
 (base:Nat) (e:TypeId) (i:TypeInfo) (z:Value) (size bytes:Nat) (ht:P.underlying t=some (.slice e)) (hi:P.info? e=some i) (hz:i.zero=some z)
 (hsize:i.size=size) (hby:i.bytes=bytes) (hzs:z.cells.size=size) (hsz:0<size)
 (v:Value) (n:Nat) (xs:List Value) (hs:a.eval s=v) (hown:w.ownsRow base e size v n xs)
 (ad:Addr) (m c:Nat) (news:List Value) (hx:a.eval x= .slice (some ad) m c) (hl:news.length=m*size) (hnews:∀ j u,news[j]? =some u→w.cell? (ad.add j)=some u) (h1:∀ u∈news,u.oneCell'=true)
 (h63:n+m≤maxLen) (hbytes:(n+m)*bytes≤140737488355328) (hbase:base≤w.heap.size)
 (h:∀ v' w',w'.ownsRow base e size v' (n+m) (xs++news)→w.grownBy w' v.ownBlock→K (a.put o.dst v') w'):
 if Region.wanted o (yielded ops a.tmps)=true then Oper.wp P o a w K Q else E:=by
 have hw:Region.wanted o (yielded ops a.tmps)=true:=by simp [Region.wanted,hg]
 rw [if_pos hw]
 exact wp_append_own w s x t ho base e i z size bytes ht hi hz hsize hby hzs hsz v n xs hs hown ad m c news hx hl hnews h1 h63 hbytes hbase fun v' w' h2 h3 _=>h v' w' h2 h3
theorem own_block_ge {W:World} {B:Nat} {e:TypeId} {s:Nat} {v:Value} {n:Nat} {xs:List Value} (h:W.ownsRow B e s v n xs) {b:Nat} (hb:v.ownBlock=some b):B≤b:=by
 rcases h.2 with ⟨rfl,-⟩ | ⟨g,cap,cur,rfl,hg,-⟩
 · cases hb
 · injection hb with hb
   rw [← hb]
   exact hg
theorem two_rows {W:World} {B B':Nat} {e e':TypeId} {s s':Nat} {v v':Value} {n n':Nat} {xs xs':List Value} (h1:W.ownsRow B e s v n xs) (h2:W.ownsRow B' e' s' v' n' xs') (hne:e≠e') {b:Nat} (hb:v.ownBlock=some b):v'.ownBlock≠some b:=by
 intro hb'
 rcases h1.2 with ⟨rfl,-⟩ | ⟨g,cap,cur,rfl,-,hg,-⟩
 · cases hb
 rcases h2.2 with ⟨rfl,-⟩ | ⟨g',cap',cur',rfl,-,hg',-⟩
 · cases hb'
 injection hb with hb
 injection hb' with hb'
 dsimp only at hb hb'
 rw [hb] at hg
 rw [hb',hg] at hg'
 injection hg' with hg'
 injection hg' with _ h _
 exact hne h
theorem keep_below {S:Nat→Prop} {B:Nat} {W W':World} (hk:Keep S W W') (hS:∀ k,k<B→S k) (hB:B≤W.heap.size):Below B W W':=⟨hk.os,hk.tape,hk.output,hk.size,fun k h=>hk.block k (hS k h) (Nat.lt_of_lt_of_le h hB)⟩
def NewNm (w:World) (h:Nat) (tb:ByteArray) (p:Nat) (b:Bool) (nm:List (ByteArray × ByteArray)) (cl:List (ByteArray × ByteArray × ByteArray)) (wx:World):Prop:=
 ∃ nv' cv',Row wx h 32 #[.string tb,.int .i64 (p:Int),nv',cv',.bool b]∧Row wx (h+2) 32 #[.string ⟨#[]⟩,.int .i64 0,.slice none 0 0,.slice none 0 0,.bool false]∧NmAt wx (h+3) nv' nm∧ClAt wx (h+3) cv' cl∧Below h w wx
theorem newNm_end {w wa:World} {tb:ByteArray} {p pp:Nat} {nv cv:Value} {cb:Bool} {nm:List (ByteArray × ByteArray)} {cl:List (ByteArray × ByteArray × ByteArray)} {q S:ByteArray} {b1:Option Addr} {k1:Nat}
 (ya:Row wa w.heap.size 32 #[.string tb,.int .i64 (p:Int),nv,cv,.bool cb]) (ra:Row wa (w.heap.size+2) 32 #[.string ⟨#[]⟩,.int .i64 0,.slice none 0 0,.slice none 0 0,.bool false])
 (hown:wa.ownsRow (w.heap.size+3) 133 2 (.slice b1 (nm.length+1) k1) (nm.length+1) (Idl.nmCells nm++[.string q,.string S])) (hca:ClAt wa (w.heap.size+3) cv cl) (hba:Below w.heap.size w wa):
 NewNm w w.heap.size tb pp cb (nm++[(q,S)]) cl (((wa.setCell ⟨w.heap.size,0,none⟩ (.string tb)).setCell ⟨w.heap.size,1,none⟩ (.int .i64 (pp:Int))).setCell ⟨w.heap.size,2,none⟩ (.slice b1 (nm.length+1) k1)):=by
 refine⟨_,_,((ya.store 0 _).store 1 _).store 2 _,((ra.other (a:=⟨w.heap.size,0,none⟩) (by simp) _).other (a:=⟨w.heap.size,1,none⟩) (by simp) _).other (a:=⟨w.heap.size,2,none⟩) (by simp) _,?_,?_,?_⟩
 · unfold NmAt
   rw [List.length_append,Idl.nmCells_append]
   exact ownsRow_setCell_below (a:=⟨w.heap.size,2,none⟩) (ownsRow_setCell_below (a:=⟨w.heap.size,1,none⟩) (ownsRow_setCell_below (a:=⟨w.heap.size,0,none⟩) hown (by show w.heap.size<w.heap.size+3;omega) _) (by show w.heap.size<w.heap.size+3;omega) _) (by show w.heap.size<w.heap.size+3;omega) _
 · exact ownsRow_setCell_below (a:=⟨w.heap.size,2,none⟩) (ownsRow_setCell_below (a:=⟨w.heap.size,1,none⟩) (ownsRow_setCell_below (a:=⟨w.heap.size,0,none⟩) hca (by show w.heap.size<w.heap.size+3;omega) _) (by show w.heap.size<w.heap.size+3;omega) _) (by show w.heap.size<w.heap.size+3;omega) _
 · exact((hba.setCell (p:=⟨w.heap.size,0,none⟩) (Nat.le_refl _) _).setCell (p:=⟨w.heap.size,1,none⟩) (Nat.le_refl _) _).setCell (p:=⟨w.heap.size,2,none⟩) (Nat.le_refl _) _
theorem Label_found (d:Idl) (hg:d.Good) (nv cv:Value) (q:ByteArray) (hq:q.size≤100) (s:ByteArray) (hf:(q,s)∈d.nm) (w:World) (hN:NmAt w 0 nv d.nm) (hC:ClAt w 0 cv d.cl):
 Calls Tryz.prog 201 #[.agg (Idl.vals d.tb d.pos nv cv d.clash),.string q] w fun e w'=>∃ nv' cv',e= .returned (.tuple #[.string s,.agg (Idl.vals d.tb d.pos nv' cv' d.clash),.int .i64 0])∧NmAt w' w.heap.size nv' d.nm∧ClAt w' w.heap.size cv' d.cl∧Below w.heap.size w w':=by
 have hnl:=hg.nms
 have hcl:=hg.cls
 have hOw:=fun w1 (hb:Below w.heap.size w w1)=>own_any d.tb d.pos nv cv d.clash d (by omega) (by omega) w1 (owns_below hN hb) (owns_below hC hb)
 have hRi:=fun w1 (hb:Below w.heap.size w w1)=>idealRight_any d hg nv cv w1 (owns_below hN hb) (owns_below hC hb)
 have hFi:=fun w1 (hb:Below w.heap.size w w1) (hr:Row w1 (w.heap.size+1) 9 #[.string q])=>findNm_any d.nm nv (fun x=>decide (x.1=q)) 219 #[.pointer (some ⟨w.heap.size+1,0,none⟩)] enters_label w1 (owns_below hN hb)
  (label_pred q (w.heap.size+1) _ (hr.alloc _).lt ((hr.alloc _).cell 0))
 obtain⟨na,nk,rfl⟩:=slice_of hN
 obtain⟨ca,ck,rfl⟩:=slice_of hC
 have hmf:∀(fn:Fn) (first cap:Array Value) (w:World),(Instr.makeFunc fn first cap).run Tryz.prog w= .ok (.func fn first cap) w:=fun _ _ _ _=>rfl
 unfold Idl.vals at*
 obtain⟨p0,q0,r0,hb0,hz0⟩:=box3 w #[.string d.tb,.int .i64 (d.pos:Int),.slice na d.nm.length nk,.slice ca d.cl.length ck,.bool d.clash] #[.string q] #[.string ⟨#[]⟩,.int .i64 0,.slice none 0 0,.slice none 0 0,.bool false] 32 9 32
 have iq:¬ (100:Int)<(q.size:Int):=by omega
 have HOw:=Lib.hid hOw
 have HRi:=Lib.hid hRi
 have HFi:=Lib.hid hFi
 have HNw:=Lib.hid hN
 have HCw:=Lib.hid hC
 clear hOw hRi hFi hN hC
 go_enter Tryz.func201,Tryz.ntmps201
 go_wp2_with fail
 refine(HOw.out _ hb0).mono ?_
 rintro e w1 ⟨nvo,cvo,rfl,hno,hco,hb1⟩
 obtain⟨oa,ok_,rfl⟩:=slice_of hno
 obtain⟨oc,oc_,rfl⟩:=slice_of hco
 have p1:=p0.below hb1 p0.lt
 have q1:=q0.below hb1 q0.lt
 have r1:=r0.below hb1 r0.lt
 have hbx:Below w.heap.size w w1:=hb0.trans (hb1.mono hb0.size)
 have hk1:w.heap.size+3≤w1.heap.size:=by have:=hb1.size;omega
 obtain⟨k,hk⟩:∃ k,w1.heap.size=k:=⟨_,rfl⟩
 rw [hz0] at hno hco
 have c0:w1.cell? ⟨w.heap.size,0,none⟩=some (.string d.tb):=p1.cell 0
 have c1:w1.cell? ⟨w.heap.size,1,none⟩=some (.int .i64 (d.pos:Int)):=p1.cell 1
 have c2:w1.cell? ⟨w.heap.size,2,none⟩=some (.slice na d.nm.length nk):=p1.cell 2
 have c3:w1.cell? ⟨w.heap.size,3,none⟩=some (.slice ca d.cl.length ck):=p1.cell 3
 have c4:w1.cell? ⟨w.heap.size,4,none⟩=some (.bool d.clash):=p1.cell 4
 have cq:w1.cell? ⟨w.heap.size+1,0,none⟩=some (.string q):=q1.cell 0
 have hbo:Below w.heap.size w (w1.alloc (.cells #[.string d.tb,.int .i64 (d.pos:Int),.slice oa d.nm.length ok_,.slice oc d.cl.length oc_,.bool d.clash] 32)):=hbx.alloc hbx.size _
 have ho1:Row (w1.alloc (.cells #[.string d.tb,.int .i64 (d.pos:Int),.slice oa d.nm.length ok_,.slice oc d.cl.length oc_,.bool d.clash] 32)) k 32 #[.string d.tb,.int .i64 (d.pos:Int),.slice oa d.nm.length ok_,.slice oc d.cl.length oc_,.bool d.clash]:=by rw [← hk];exact Row.new w1 _ _
 have hno1:NmAt (w1.alloc (.cells #[.string d.tb,.int .i64 (d.pos:Int),.slice oa d.nm.length ok_,.slice oc d.cl.length oc_,.bool d.clash] 32)) (w.heap.size+3) (.slice oa d.nm.length ok_) d.nm:=owns_below hno ((Below.refl _ w1).alloc (Nat.le_refl _) _)
 have hco1:ClAt (w1.alloc (.cells #[.string d.tb,.int .i64 (d.pos:Int),.slice oa d.nm.length ok_,.slice oc d.cl.length oc_,.bool d.clash] 32)) (w.heap.size+3) (.slice oc d.cl.length oc_) d.cl:=owns_below hco ((Below.refl _ w1).alloc (Nat.le_refl _) _)
 have Ho1:=Lib.hid ho1
 have Hno1:=Lib.hid hno1
 have Hco1:=Lib.hid hco1
 have Hp1:=Lib.hid (p1.alloc (.cells #[.string d.tb,.int .i64 (d.pos:Int),.slice oa d.nm.length ok_,.slice oc d.cl.length oc_,.bool d.clash] 32))
 have Hq1:=Lib.hid (q1.alloc (.cells #[.string d.tb,.int .i64 (d.pos:Int),.slice oa d.nm.length ok_,.slice oc d.cl.length oc_,.bool d.clash] 32))
 have Hr1:=Lib.hid (r1.alloc (.cells #[.string d.tb,.int .i64 (d.pos:Int),.slice oa d.nm.length ok_,.slice oc d.cl.length oc_,.bool d.clash] 32))
 have Hbo:=Lib.hid hbo
 have n1:w.heap.size<k:=by omega
 have n2:w.heap.size≠k:=by omega
 have n3:w.heap.size+1<k:=by omega
 have n4:w.heap.size+1≠k:=by omega
 clear hno hco hno1 hco1 ho1 hbo hb1 hbx p0 q0 r0 p1 q1 r1 hb0
 go_wp2_with fail
 refine(HRi.out _ Hbo.out).mono ?_
 rintro e w2 ⟨rfl,hb2⟩
 have hsz2:=hb2.size
 rw [World.size_alloc,hk] at hsz2
 have p2:=Hp1.out.below hb2 Hp1.out.lt
 have q2:=Hq1.out.below hb2 Hq1.out.lt
 have r2:=Hr1.out.below hb2 Hr1.out.lt
 have o2:=Ho1.out.below hb2 Ho1.out.lt
 have hno2:=owns_below Hno1.out hb2
 have hco2:=owns_below Hco1.out hb2
 have hbx:Below w.heap.size w w2:=Hbo.out.trans (hb2.mono Hbo.out.size)
 clear n1 n2 n3 n4 c0 c1 c2 c3 c4 cq
 have c0:w2.cell? ⟨w.heap.size,0,none⟩=some (.string d.tb):=p2.cell 0
 have c1:w2.cell? ⟨w.heap.size,1,none⟩=some (.int .i64 (d.pos:Int)):=p2.cell 1
 have c2:w2.cell? ⟨w.heap.size,2,none⟩=some (.slice na d.nm.length nk):=p2.cell 2
 have c3:w2.cell? ⟨w.heap.size,3,none⟩=some (.slice ca d.cl.length ck):=p2.cell 3
 have c4:w2.cell? ⟨w.heap.size,4,none⟩=some (.bool d.clash):=p2.cell 4
 have cq:w2.cell? ⟨w.heap.size+1,0,none⟩=some (.string q):=q2.cell 0
 have Hp2:=Lib.hid p2
 have Hq2:=Lib.hid q2
 have Hr2:=Lib.hid r2
 have Ho2:=Lib.hid o2
 have Hno2:=Lib.hid hno2
 have Hco2:=Lib.hid hco2
 have Hbx:=Lib.hid hbx
 clear p2 q2 r2 o2 hno2 hco2 hbx hb2 Hp1 Hq1 Hr1 Ho1 Hno1 Hco1 Hbo
 go_wp2_with fail
 refine(HFi.out _ Hbx.out Hq2.out).mono ?_
 rintro e w3 ⟨hcase,hb3⟩
 have hsz3:=hb3.size
 have p3:=Hp2.out.below hb3 Hp2.out.lt
 have q3:=Hq2.out.below hb3 Hq2.out.lt
 have r3:=Hr2.out.below hb3 Hr2.out.lt
 have o3:=Ho2.out.below hb3 Ho2.out.lt
 have hno3:=owns_below Hno2.out hb3
 have hco3:=owns_below Hco2.out hb3
 have hbx:Below w.heap.size w w3:=Hbx.out.trans (hb3.mono Hbx.out.size)
 clear c0 c1 c2 c3 c4 cq Hp2 Hq2 Hr2 Ho2 Hno2 Hco2 Hbx hb3
 have hfd:d.nm.find? (fun x=>decide (x.1=q))=some (q,s):=Idl.find_first (f:=fun n:ByteArray × ByteArray=>n.1) hg.ins hf (by simp)
 rw [hfd] at hcase
 rcases hcase with ⟨h,-⟩ | ⟨x,hx,rfl⟩
 · cases h
 obtain rfl:=Option.some.inj hx
 obtain⟨w4,hw4⟩:∃ w4,w3.alloc (.cells #[.string q,.string s] 133)=w4:=⟨_,rfl⟩
 have hb4:Below w3.heap.size w3 w4:=by rw [← hw4];exact(Below.refl _ w3).alloc (Nat.le_refl _) _
 have x4:Row w4 w3.heap.size 133 #[.string q,.string s]:=by rw [← hw4];exact Row.new w3 _ _
 have r4:=r3.below hb4 r3.lt
 have o4:=o3.below hb4 o3.lt
 have Hno4:=Lib.hid (owns_below hno3 hb4)
 have Hco4:=Lib.hid (owns_below hco3 hb4)
 have Hb4:=Lib.hid (hbx.trans (hb4.mono hbx.size))
 go_wp2
 clear hno3 hco3 hbx p3 q3 r3 o3 hf hfd hx hw4 hb4
 have x1:w4.cell? ⟨w3.heap.size,1,none⟩=some (.string s):=x4.cell 1
 have y0:w4.cell? ⟨k,0,none⟩=some (.string d.tb):=o4.cell 0
 have y1:w4.cell? ⟨k,1,none⟩=some (.int .i64 (d.pos:Int)):=o4.cell 1
 have y2:w4.cell? ⟨k,2,none⟩=some (.slice oa d.nm.length ok_):=o4.cell 2
 have y3:w4.cell? ⟨k,3,none⟩=some (.slice oc d.cl.length oc_):=o4.cell 3
 have y4:w4.cell? ⟨k,4,none⟩=some (.bool d.clash):=o4.cell 4
 have e0:w4.cell? ⟨w.heap.size+2,0,none⟩=some (.string ⟨#[]⟩):=r4.cell 0
 have e1:w4.cell? ⟨w.heap.size+2,1,none⟩=some (.int .i64 0):=r4.cell 1
 have e2:w4.cell? ⟨w.heap.size+2,2,none⟩=some (.slice none 0 0):=r4.cell 2
 have e3:w4.cell? ⟨w.heap.size+2,3,none⟩=some (.slice none 0 0):=r4.cell 3
 have e4:w4.cell? ⟨w.heap.size+2,4,none⟩=some (.bool false):=r4.cell 4
 have f0:=r4.frozen 0
 have f1:=r4.frozen 1
 have f2:=r4.frozen 2
 have f3:=r4.frozen 3
 have f4:=r4.frozen 4
 have m5:w.heap.size+2≠k:=by omega
 have Hr4:=Lib.hid r4
 clear r4 o4 x4
 have y0:Row w4 (w.heap.size+1+1) 32 #[.string ⟨#[]⟩,.int .i64 0,.slice none 0 0,.slice none 0 0,.bool false]:=Hr4.out
 have n0:=Hno4.out
 have l0:=Hco4.out
 have b0:=Hb4.out
 have y1:Row (w4.setCell ⟨w.heap.size+1+1,0,none⟩ (.string d.tb)) (w.heap.size+1+1) 32 #[.string d.tb,.int .i64 0,.slice none 0 0,.slice none 0 0,.bool false]:=y0.store 0 _
 have n1:=ownsRow_setCell_below (a:=⟨w.heap.size+1+1,0,none⟩) n0 (by show w.heap.size+1+1<w.heap.size+3;omega) (.string d.tb)
 have l1:=ownsRow_setCell_below (a:=⟨w.heap.size+1+1,0,none⟩) l0 (by show w.heap.size+1+1<w.heap.size+3;omega) (.string d.tb)
 have b1:=Below.setCell b0 (p:=⟨w.heap.size+1+1,0,none⟩) (by show w.heap.size≤w.heap.size+1+1;omega) (.string d.tb)
 have y2:Row ((w4.setCell ⟨w.heap.size+1+1,0,none⟩ (.string d.tb)).setCell ⟨w.heap.size+1+1,1,none⟩ (.int .i64 (d.pos:Int))) (w.heap.size+1+1) 32 #[.string d.tb,.int .i64 (d.pos:Int),.slice none 0 0,.slice none 0 0,.bool false]:=y1.store 1 _
 have n2:=ownsRow_setCell_below (a:=⟨w.heap.size+1+1,1,none⟩) n1 (by show w.heap.size+1+1<w.heap.size+3;omega) (.int .i64 (d.pos:Int))
 have l2:=ownsRow_setCell_below (a:=⟨w.heap.size+1+1,1,none⟩) l1 (by show w.heap.size+1+1<w.heap.size+3;omega) (.int .i64 (d.pos:Int))
 have b2:=Below.setCell b1 (p:=⟨w.heap.size+1+1,1,none⟩) (by show w.heap.size≤w.heap.size+1+1;omega) (.int .i64 (d.pos:Int))
 have y3:Row (((w4.setCell ⟨w.heap.size+1+1,0,none⟩ (.string d.tb)).setCell ⟨w.heap.size+1+1,1,none⟩ (.int .i64 (d.pos:Int))).setCell ⟨w.heap.size+1+1,2,none⟩ (.slice oa d.nm.length ok_)) (w.heap.size+1+1) 32 #[.string d.tb,.int .i64 (d.pos:Int),.slice oa d.nm.length ok_,.slice none 0 0,.bool false]:=y2.store 2 _
 have n3:=ownsRow_setCell_below (a:=⟨w.heap.size+1+1,2,none⟩) n2 (by show w.heap.size+1+1<w.heap.size+3;omega) (.slice oa d.nm.length ok_)
 have l3:=ownsRow_setCell_below (a:=⟨w.heap.size+1+1,2,none⟩) l2 (by show w.heap.size+1+1<w.heap.size+3;omega) (.slice oa d.nm.length ok_)
 have b3:=Below.setCell b2 (p:=⟨w.heap.size+1+1,2,none⟩) (by show w.heap.size≤w.heap.size+1+1;omega) (.slice oa d.nm.length ok_)
 have y4:Row ((((w4.setCell ⟨w.heap.size+1+1,0,none⟩ (.string d.tb)).setCell ⟨w.heap.size+1+1,1,none⟩ (.int .i64 (d.pos:Int))).setCell ⟨w.heap.size+1+1,2,none⟩ (.slice oa d.nm.length ok_)).setCell ⟨w.heap.size+1+1,3,none⟩ (.slice oc d.cl.length oc_)) (w.heap.size+1+1) 32 #[.string d.tb,.int .i64 (d.pos:Int),.slice oa d.nm.length ok_,.slice oc d.cl.length oc_,.bool false]:=y3.store 3 _
 have n4:=ownsRow_setCell_below (a:=⟨w.heap.size+1+1,3,none⟩) n3 (by show w.heap.size+1+1<w.heap.size+3;omega) (.slice oc d.cl.length oc_)
 have l4:=ownsRow_setCell_below (a:=⟨w.heap.size+1+1,3,none⟩) l3 (by show w.heap.size+1+1<w.heap.size+3;omega) (.slice oc d.cl.length oc_)
 have b4:=Below.setCell b3 (p:=⟨w.heap.size+1+1,3,none⟩) (by show w.heap.size≤w.heap.size+1+1;omega) (.slice oc d.cl.length oc_)
 have y5:Row (((((w4.setCell ⟨w.heap.size+1+1,0,none⟩ (.string d.tb)).setCell ⟨w.heap.size+1+1,1,none⟩ (.int .i64 (d.pos:Int))).setCell ⟨w.heap.size+1+1,2,none⟩ (.slice oa d.nm.length ok_)).setCell ⟨w.heap.size+1+1,3,none⟩ (.slice oc d.cl.length oc_)).setCell ⟨w.heap.size+1+1,4,none⟩ (.bool d.clash)) (w.heap.size+1+1) 32 #[.string d.tb,.int .i64 (d.pos:Int),.slice oa d.nm.length ok_,.slice oc d.cl.length oc_,.bool d.clash]:=y4.store 4 _
 have n5:=ownsRow_setCell_below (a:=⟨w.heap.size+1+1,4,none⟩) n4 (by show w.heap.size+1+1<w.heap.size+3;omega) (.bool d.clash)
 have l5:=ownsRow_setCell_below (a:=⟨w.heap.size+1+1,4,none⟩) l4 (by show w.heap.size+1+1<w.heap.size+3;omega) (.bool d.clash)
 have b5:=Below.setCell b4 (p:=⟨w.heap.size+1+1,4,none⟩) (by show w.heap.size≤w.heap.size+1+1;omega) (.bool d.clash)
 obtain⟨WF,hWF⟩:∃ WF,(((((w4.setCell ⟨w.heap.size+1+1,0,none⟩ (.string d.tb)).setCell ⟨w.heap.size+1+1,1,none⟩ (.int .i64 (d.pos:Int))).setCell ⟨w.heap.size+1+1,2,none⟩ (.slice oa d.nm.length ok_)).setCell ⟨w.heap.size+1+1,3,none⟩ (.slice oc d.cl.length oc_)).setCell ⟨w.heap.size+1+1,4,none⟩ (.bool d.clash))=WF:=⟨_,rfl⟩
 rw [hWF] at y5 n5 l5 b5
 clear y0 y1 y2 y3 y4 n0 n1 n2 n3 n4 l0 l1 l2 l3 l4 b0 b1 b2 b3 b4
 have Hy:=Lib.hid y5
 have Hn:=Lib.hid n5
 have Hl:=Lib.hid l5
 have Hbf:=Lib.hid b5
 clear y5 n5 l5 b5 Hr4 Hno4 Hco4 Hb4
 go_region
 all_goals
  go_wp2
  refine bodyPost_ret (results_tct _ _ (g:=w.heap.size+1+1) (t:=32) rfl rfl Hy.out.drew Tryz.underlying32 rfl (by kernel_rfl)) rfl ⟨_,_,rfl,?_,?_,?_⟩
  · exact ownsRow_weak (W:=WF.drew) Hn.out (by omega)
  · exact ownsRow_weak (W:=WF.drew) Hl.out (by omega)
  · exact Hbf.out.drew
theorem Label_new (d:Idl) (hg:d.Good) (nv cv:Value) (q:ByteArray) (hq:q.size≤100) (hf:q ∉ d.ins) (hl:d.nm.length≠2000) (hp:d.pos+16≤d.tb.size) (w:World) (hN:NmAt w 0 nv d.nm) (hC:ClAt w 0 cv d.cl):
 Calls Tryz.prog 201 #[.agg (Idl.vals d.tb d.pos nv cv d.clash),.string q] w fun e w'=>∃ nv' cv',e= .returned (.tuple #[.string (d.tb.extract d.pos (d.pos+16)),.agg (Idl.vals d.tb (d.pos+16) nv' cv' (d.named q).clash),.int .i64 0])∧NmAt w' w.heap.size nv' (d.named q).nm∧ClAt w' w.heap.size cv' d.cl∧Below w.heap.size w w':=by
 have hnl:=hg.nms
 have hcl:=hg.cls
 have hOw:=fun w1 (hb:Below w.heap.size w w1)=>own_any d.tb d.pos nv cv d.clash d (by omega) (by omega) w1 (owns_below hN hb) (owns_below hC hb)
 have hRi:=fun w1 (hb:Below w.heap.size w w1)=>idealRight_any d hg nv cv w1 (owns_below hN hb) (owns_below hC hb)
 have hFi:=fun w1 (hb:Below w.heap.size w w1) (hr:Row w1 (w.heap.size+1) 9 #[.string q])=>findNm_any d.nm nv (fun x=>decide (x.1=q)) 219 #[.pointer (some ⟨w.heap.size+1,0,none⟩)] enters_label w1 (owns_below hN hb)
  (label_pred q (w.heap.size+1) _ (hr.alloc _).lt ((hr.alloc _).cell 0))
 obtain⟨na,nk,rfl⟩:=slice_of hN
 obtain⟨ca,ck,rfl⟩:=slice_of hC
 have hmf:∀(fn:Fn) (first cap:Array Value) (w:World),(Instr.makeFunc fn first cap).run Tryz.prog w= .ok (.func fn first cap) w:=fun _ _ _ _=>rfl
 unfold Idl.vals at*
 obtain⟨p0,q0,r0,hb0,hz0⟩:=box3 w #[.string d.tb,.int .i64 (d.pos:Int),.slice na d.nm.length nk,.slice ca d.cl.length ck,.bool d.clash] #[.string q] #[.string ⟨#[]⟩,.int .i64 0,.slice none 0 0,.slice none 0 0,.bool false] 32 9 32
 have iq:¬ (100:Int)<(q.size:Int):=by omega
 have HOw:=Lib.hid hOw
 have HRi:=Lib.hid hRi
 have HFi:=Lib.hid hFi
 have HNw:=Lib.hid hN
 have HCw:=Lib.hid hC
 clear hOw hRi hFi hN hC
 have hgn:=hg.named hq hf hl hp
 have hnn:=hgn.nms
 have hck:∀ x∈(d.named q).nm,x.2.size≤maxLen:=fun x hx=>(hgn.nmk x hx).2
 have hcln:=fun w1 nv3 cv3 (tb:ByteArray) (p:Nat) (b:Bool) (h1:NmAt w1 0 nv3 (d.named q).nm) (h2:ClAt w1 0 cv3 d.cl)=>clash_any tb p nv3 cv3 b (d.named q) (by omega) (by show d.cl.length≤100000;omega) hck (fun x hx=>⟨(hg.clk x hx).1,(hg.clk x hx).2.2⟩) w1 h1 h2
 have hT:=fun w1=>Take_any d.tb d.pos 16 hg.tb hp w1
 rw [show ((16:Nat):Int)=16 from rfl] at hT
 have hnmd:(d.named q).nm=d.nm++[(q,d.tb.extract d.pos (d.pos+16))]:=rfl
 rw [hnmd] at hcln ⊢
 clear hnmd hgn hnn hck
 unfold Idl.vals at*
 generalize (d.named q).clash=ncl at*
 have hSs:(d.tb.extract d.pos (d.pos+16)).size=16:=by rw [ByteArray.size_extract];omega
 generalize d.tb.extract d.pos (d.pos+16)=S at*
 obtain⟨pp,hpp⟩:∃ pp:Nat,d.pos+16=pp:=⟨_,rfl⟩
 rw [hpp] at hT ⊢
 have Hcln:=Lib.hid hcln
 have HT:=Lib.hid hT
 clear hcln hT
 go_enter Tryz.func201,Tryz.ntmps201
 go_wp2_with fail
 refine(HOw.out _ hb0).mono ?_
 rintro e w1 ⟨nvo,cvo,rfl,hno,hco,hb1⟩
 obtain⟨oa,ok_,rfl⟩:=slice_of hno
 obtain⟨oc,oc_,rfl⟩:=slice_of hco
 have p1:=p0.below hb1 p0.lt
 have q1:=q0.below hb1 q0.lt
 have r1:=r0.below hb1 r0.lt
 have hbx:Below w.heap.size w w1:=hb0.trans (hb1.mono hb0.size)
 have hk1:w.heap.size+3≤w1.heap.size:=by have:=hb1.size;omega
 obtain⟨k,hk⟩:∃ k,w1.heap.size=k:=⟨_,rfl⟩
 rw [hz0] at hno hco
 have c0:w1.cell? ⟨w.heap.size,0,none⟩=some (.string d.tb):=p1.cell 0
 have c1:w1.cell? ⟨w.heap.size,1,none⟩=some (.int .i64 (d.pos:Int)):=p1.cell 1
 have c2:w1.cell? ⟨w.heap.size,2,none⟩=some (.slice na d.nm.length nk):=p1.cell 2
 have c3:w1.cell? ⟨w.heap.size,3,none⟩=some (.slice ca d.cl.length ck):=p1.cell 3
 have c4:w1.cell? ⟨w.heap.size,4,none⟩=some (.bool d.clash):=p1.cell 4
 have cq:w1.cell? ⟨w.heap.size+1,0,none⟩=some (.string q):=q1.cell 0
 have hbo:Below w.heap.size w (w1.alloc (.cells #[.string d.tb,.int .i64 (d.pos:Int),.slice oa d.nm.length ok_,.slice oc d.cl.length oc_,.bool d.clash] 32)):=hbx.alloc hbx.size _
 have ho1:Row (w1.alloc (.cells #[.string d.tb,.int .i64 (d.pos:Int),.slice oa d.nm.length ok_,.slice oc d.cl.length oc_,.bool d.clash] 32)) k 32 #[.string d.tb,.int .i64 (d.pos:Int),.slice oa d.nm.length ok_,.slice oc d.cl.length oc_,.bool d.clash]:=by rw [← hk];exact Row.new w1 _ _
 have hno1:NmAt (w1.alloc (.cells #[.string d.tb,.int .i64 (d.pos:Int),.slice oa d.nm.length ok_,.slice oc d.cl.length oc_,.bool d.clash] 32)) (w.heap.size+3) (.slice oa d.nm.length ok_) d.nm:=owns_below hno ((Below.refl _ w1).alloc (Nat.le_refl _) _)
 have hco1:ClAt (w1.alloc (.cells #[.string d.tb,.int .i64 (d.pos:Int),.slice oa d.nm.length ok_,.slice oc d.cl.length oc_,.bool d.clash] 32)) (w.heap.size+3) (.slice oc d.cl.length oc_) d.cl:=owns_below hco ((Below.refl _ w1).alloc (Nat.le_refl _) _)
 have Ho1:=Lib.hid ho1
 have Hno1:=Lib.hid hno1
 have Hco1:=Lib.hid hco1
 have Hp1:=Lib.hid (p1.alloc (.cells #[.string d.tb,.int .i64 (d.pos:Int),.slice oa d.nm.length ok_,.slice oc d.cl.length oc_,.bool d.clash] 32))
 have Hq1:=Lib.hid (q1.alloc (.cells #[.string d.tb,.int .i64 (d.pos:Int),.slice oa d.nm.length ok_,.slice oc d.cl.length oc_,.bool d.clash] 32))
 have Hr1:=Lib.hid (r1.alloc (.cells #[.string d.tb,.int .i64 (d.pos:Int),.slice oa d.nm.length ok_,.slice oc d.cl.length oc_,.bool d.clash] 32))
 have Hbo:=Lib.hid hbo
 have n1:w.heap.size<k:=by omega
 have n2:w.heap.size≠k:=by omega
 have n3:w.heap.size+1<k:=by omega
 have n4:w.heap.size+1≠k:=by omega
 clear hno hco hno1 hco1 ho1 hbo hb1 hbx p0 q0 r0 p1 q1 r1 hb0
 go_wp2_with fail
 refine(HRi.out _ Hbo.out).mono ?_
 rintro e w2 ⟨rfl,hb2⟩
 have hsz2:=hb2.size
 rw [World.size_alloc,hk] at hsz2
 have p2:=Hp1.out.below hb2 Hp1.out.lt
 have q2:=Hq1.out.below hb2 Hq1.out.lt
 have r2:=Hr1.out.below hb2 Hr1.out.lt
 have o2:=Ho1.out.below hb2 Ho1.out.lt
 have hno2:=owns_below Hno1.out hb2
 have hco2:=owns_below Hco1.out hb2
 have hbx:Below w.heap.size w w2:=Hbo.out.trans (hb2.mono Hbo.out.size)
 clear n1 n2 n3 n4 c0 c1 c2 c3 c4 cq
 have c0:w2.cell? ⟨w.heap.size,0,none⟩=some (.string d.tb):=p2.cell 0
 have c1:w2.cell? ⟨w.heap.size,1,none⟩=some (.int .i64 (d.pos:Int)):=p2.cell 1
 have c2:w2.cell? ⟨w.heap.size,2,none⟩=some (.slice na d.nm.length nk):=p2.cell 2
 have c3:w2.cell? ⟨w.heap.size,3,none⟩=some (.slice ca d.cl.length ck):=p2.cell 3
 have c4:w2.cell? ⟨w.heap.size,4,none⟩=some (.bool d.clash):=p2.cell 4
 have cq:w2.cell? ⟨w.heap.size+1,0,none⟩=some (.string q):=q2.cell 0
 have Hp2:=Lib.hid p2
 have Hq2:=Lib.hid q2
 have Hr2:=Lib.hid r2
 have Ho2:=Lib.hid o2
 have Hno2:=Lib.hid hno2
 have Hco2:=Lib.hid hco2
 have Hbx:=Lib.hid hbx
 clear p2 q2 r2 o2 hno2 hco2 hbx hb2 Hp1 Hq1 Hr1 Ho1 Hno1 Hco1 Hbo
 go_wp2_with fail
 refine(HFi.out _ Hbx.out Hq2.out).mono ?_
 rintro e w3 ⟨hcase,hb3⟩
 have hsz3:=hb3.size
 have p3:=Hp2.out.below hb3 Hp2.out.lt
 have q3:=Hq2.out.below hb3 Hq2.out.lt
 have r3:=Hr2.out.below hb3 Hr2.out.lt
 have o3:=Ho2.out.below hb3 Ho2.out.lt
 have hno3:=owns_below Hno2.out hb3
 have hco3:=owns_below Hco2.out hb3
 have hbx:Below w.heap.size w w3:=Hbx.out.trans (hb3.mono Hbx.out.size)
 clear c0 c1 c2 c3 c4 cq Hp2 Hq2 Hr2 Ho2 Hno2 Hco2 Hbx hb3
 have hfd:d.nm.find? (fun x=>decide (x.1=q))=none:=Idl.label_none hf
 rw [hfd] at hcase
 rcases hcase with ⟨-,rfl⟩ | ⟨x,hx,-⟩
 rotate_left
 · cases hx
 obtain⟨w4,hw4⟩:∃ w4,w3.alloc (.cells #[.string ⟨#[]⟩,.string ⟨#[]⟩] 133)=w4:=⟨_,rfl⟩
 have hb4:Below w3.heap.size w3 w4:=by rw [← hw4];exact(Below.refl _ w3).alloc (Nat.le_refl _) _
 have p4:=p3.below hb4 p3.lt
 have q4:=q3.below hb4 q3.lt
 have r4:=r3.below hb4 r3.lt
 have o4:=o3.below hb4 o3.lt
 have hno4:=owns_below hno3 hb4
 have hco4:=owns_below hco3 hb4
 have hbx4:=hbx.trans (hb4.mono hbx.size)
 have hlen:((d.nm.length:Int) == 2000)=false:=by rw [beq_eq_false_iff_ne];omega
 have c0:w3.cell? ⟨w.heap.size,0,none⟩=some (.string d.tb):=p3.cell 0
 have c1:w3.cell? ⟨w.heap.size,1,none⟩=some (.int .i64 (d.pos:Int)):=p3.cell 1
 have c2:w3.cell? ⟨w.heap.size,2,none⟩=some (.slice na d.nm.length nk):=p3.cell 2
 have c3:w3.cell? ⟨w.heap.size,3,none⟩=some (.slice ca d.cl.length ck):=p3.cell 3
 have c4:w3.cell? ⟨w.heap.size,4,none⟩=some (.bool d.clash):=p3.cell 4
 have Hp4:=Lib.hid p4
 have Hq4:=Lib.hid q4
 have Hr4:=Lib.hid r4
 have Ho4:=Lib.hid o4
 have Hno4:=Lib.hid hno4
 have Hco4:=Lib.hid hco4
 have Hbx4:=Lib.hid hbx4
 have hk4:w3.heap.size≤w4.heap.size:=hb4.size
 have n1:w.heap.size<w3.heap.size:=p3.lt
 have n2:w.heap.size≠w3.heap.size:=by omega
 have Hw4:=Lib.hid hw4
 clear hno3 hco3 hbx p3 q3 r3 o3 hfd hb4 p4 q4 r4 o4 hno4 hco4 hbx4 hw4
 go_wp2_with fail
 rw [Hw4.out]
 clear c0 c1 c2 c3 c4 n1 n2
 refine(HT.out w4).mono ?_
 rintro e w5 ⟨rfl,hb5⟩
 clear HT
 obtain⟨w6,hw6⟩:∃ w6,w5.alloc (.cells #[.string d.tb,.int .i64 (pp:Int)] 23)=w6:=⟨_,rfl⟩
 have hb46:Below w4.heap.size w4 w6:=by rw [← hw6];exact hb5.alloc hb5.size _
 have t6:Row w6 w5.heap.size 23 #[.string d.tb,.int .i64 (pp:Int)]:=by rw [← hw6];exact Row.new w5 _ _
 have hk5:w4.heap.size≤w5.heap.size:=hb5.size
 obtain⟨kt,hkt⟩:∃ kt,w5.heap.size=kt:=⟨_,rfl⟩
 rw [hkt] at t6 hk5
 have p6:=Hp4.out.below hb46 Hp4.out.lt
 have q6:=Hq4.out.below hb46 Hq4.out.lt
 have r6:=Hr4.out.below hb46 Hr4.out.lt
 have o6:=Ho4.out.below hb46 Ho4.out.lt
 have hb06:=Hbx4.out.trans (hb46.mono Hbx4.out.size)
 have c0:w6.cell? ⟨w.heap.size,0,none⟩=some (.string d.tb):=p6.cell 0
 have c1:w6.cell? ⟨w.heap.size,1,none⟩=some (.int .i64 (d.pos:Int)):=p6.cell 1
 have c2:w6.cell? ⟨w.heap.size,2,none⟩=some (.slice na d.nm.length nk):=p6.cell 2
 have c3:w6.cell? ⟨w.heap.size,3,none⟩=some (.slice ca d.cl.length ck):=p6.cell 3
 have c4:w6.cell? ⟨w.heap.size,4,none⟩=some (.bool d.clash):=p6.cell 4
 have Hp6:=Lib.hid p6
 have Hq6:=Lib.hid q6
 have Hr6:=Lib.hid r6
 have Ho6:=Lib.hid o6
 have Ht6:=Lib.hid t6
 have Hb6:=Lib.hid hb06
 clear Hp4 Hq4 Hr4 Ho4 Hno4 Hco4 Hbx4 hb5 hb46 p6 q6 r6 o6 t6 hb06
 go_wp2_with fail
 refine(HOw.out _ Hb6.out).mono ?_
 rintro e w7 ⟨nv2,cv2,rfl,hn2,hc2,hb7⟩
 obtain⟨a2,k2,rfl⟩:=slice_of hn2
 obtain⟨a3,k3,rfl⟩:=slice_of hc2
 have hk6:=Hr6.out.lt
 have hz7:=hb7.size
 have p7:=Hp6.out.below hb7 Hp6.out.lt
 have q7:=Hq6.out.below hb7 Hq6.out.lt
 have r7:=Hr6.out.below hb7 Hr6.out.lt
 have t7:=Ht6.out.below hb7 Ht6.out.lt
 have hvb:∀ b,(Value.slice a2 d.nm.length k2).ownBlock=some b→w6.heap.size≤b:=fun b hb=>own_block_ge hn2 hb
 have hkt6:kt<w6.heap.size:=Ht6.out.lt
 have hwb:∀ b,(Value.slice a3 d.cl.length k3).ownBlock=some b→w6.heap.size≤b:=fun b hb=>own_block_ge hc2 hb
 have hn7:NmAt w7 (w.heap.size+3) (.slice a2 d.nm.length k2) d.nm:=ownsRow_weak hn2 (by omega)
 have hc7:ClAt w7 (w.heap.size+3) (.slice a3 d.cl.length k3) d.cl:=ownsRow_weak hc2 (by omega)
 have hb07:=Hb6.out.trans (hb7.mono Hb6.out.size)
 clear c0 c1 c2 c3 c4
 have c0:w7.cell? ⟨w.heap.size,0,none⟩=some (.string d.tb):=p7.cell 0
 have c1:w7.cell? ⟨w.heap.size,1,none⟩=some (.int .i64 (d.pos:Int)):=p7.cell 1
 have c2:w7.cell? ⟨w.heap.size,2,none⟩=some (.slice na d.nm.length nk):=p7.cell 2
 have c3:w7.cell? ⟨w.heap.size,3,none⟩=some (.slice ca d.cl.length ck):=p7.cell 3
 have c4:w7.cell? ⟨w.heap.size,4,none⟩=some (.bool d.clash):=p7.cell 4
 have f0:=p7.frozen 0
 have f1:=p7.frozen 1
 have f2:=p7.frozen 2
 have f3:=p7.frozen 3
 have f4:=p7.frozen 4
 have y0:Row w7 (w.heap.size) 32 #[.string d.tb,.int .i64 (d.pos:Int),.slice na d.nm.length nk,.slice ca d.cl.length ck,.bool d.clash]:=p7
 have n0:=hn7
 have l0:=hc7
 have b0:=hb07
 have y1:Row (w7.setCell ⟨w.heap.size,0,none⟩ (.string d.tb)) (w.heap.size) 32 #[.string d.tb,.int .i64 (d.pos:Int),.slice na d.nm.length nk,.slice ca d.cl.length ck,.bool d.clash]:=y0.store 0 _
 have n1:=ownsRow_setCell_below (a:=⟨w.heap.size,0,none⟩) n0 (by show w.heap.size<w.heap.size+3;omega) (.string d.tb)
 have l1:=ownsRow_setCell_below (a:=⟨w.heap.size,0,none⟩) l0 (by show w.heap.size<w.heap.size+3;omega) (.string d.tb)
 have b1:=Below.setCell b0 (p:=⟨w.heap.size,0,none⟩) (by show w.heap.size≤w.heap.size;omega) (.string d.tb)
 have y2:Row ((w7.setCell ⟨w.heap.size,0,none⟩ (.string d.tb)).setCell ⟨w.heap.size,1,none⟩ (.int .i64 (d.pos:Int))) (w.heap.size) 32 #[.string d.tb,.int .i64 (d.pos:Int),.slice na d.nm.length nk,.slice ca d.cl.length ck,.bool d.clash]:=y1.store 1 _
 have n2:=ownsRow_setCell_below (a:=⟨w.heap.size,1,none⟩) n1 (by show w.heap.size<w.heap.size+3;omega) (.int .i64 (d.pos:Int))
 have l2:=ownsRow_setCell_below (a:=⟨w.heap.size,1,none⟩) l1 (by show w.heap.size<w.heap.size+3;omega) (.int .i64 (d.pos:Int))
 have b2:=Below.setCell b1 (p:=⟨w.heap.size,1,none⟩) (by show w.heap.size≤w.heap.size;omega) (.int .i64 (d.pos:Int))
 have y3:Row (((w7.setCell ⟨w.heap.size,0,none⟩ (.string d.tb)).setCell ⟨w.heap.size,1,none⟩ (.int .i64 (d.pos:Int))).setCell ⟨w.heap.size,2,none⟩ (.slice a2 d.nm.length k2)) (w.heap.size) 32 #[.string d.tb,.int .i64 (d.pos:Int),.slice a2 d.nm.length k2,.slice ca d.cl.length ck,.bool d.clash]:=y2.store 2 _
 have n3:=ownsRow_setCell_below (a:=⟨w.heap.size,2,none⟩) n2 (by show w.heap.size<w.heap.size+3;omega) (.slice a2 d.nm.length k2)
 have l3:=ownsRow_setCell_below (a:=⟨w.heap.size,2,none⟩) l2 (by show w.heap.size<w.heap.size+3;omega) (.slice a2 d.nm.length k2)
 have b3:=Below.setCell b2 (p:=⟨w.heap.size,2,none⟩) (by show w.heap.size≤w.heap.size;omega) (.slice a2 d.nm.length k2)
 have y4:Row ((((w7.setCell ⟨w.heap.size,0,none⟩ (.string d.tb)).setCell ⟨w.heap.size,1,none⟩ (.int .i64 (d.pos:Int))).setCell ⟨w.heap.size,2,none⟩ (.slice a2 d.nm.length k2)).setCell ⟨w.heap.size,3,none⟩ (.slice a3 d.cl.length k3)) (w.heap.size) 32 #[.string d.tb,.int .i64 (d.pos:Int),.slice a2 d.nm.length k2,.slice a3 d.cl.length k3,.bool d.clash]:=y3.store 3 _
 have n4:=ownsRow_setCell_below (a:=⟨w.heap.size,3,none⟩) n3 (by show w.heap.size<w.heap.size+3;omega) (.slice a3 d.cl.length k3)
 have l4:=ownsRow_setCell_below (a:=⟨w.heap.size,3,none⟩) l3 (by show w.heap.size<w.heap.size+3;omega) (.slice a3 d.cl.length k3)
 have b4:=Below.setCell b3 (p:=⟨w.heap.size,3,none⟩) (by show w.heap.size≤w.heap.size;omega) (.slice a3 d.cl.length k3)
 have y5:Row (((((w7.setCell ⟨w.heap.size,0,none⟩ (.string d.tb)).setCell ⟨w.heap.size,1,none⟩ (.int .i64 (d.pos:Int))).setCell ⟨w.heap.size,2,none⟩ (.slice a2 d.nm.length k2)).setCell ⟨w.heap.size,3,none⟩ (.slice a3 d.cl.length k3)).setCell ⟨w.heap.size,4,none⟩ (.bool d.clash)) (w.heap.size) 32 #[.string d.tb,.int .i64 (d.pos:Int),.slice a2 d.nm.length k2,.slice a3 d.cl.length k3,.bool d.clash]:=y4.store 4 _
 have n5:=ownsRow_setCell_below (a:=⟨w.heap.size,4,none⟩) n4 (by show w.heap.size<w.heap.size+3;omega) (.bool d.clash)
 have l5:=ownsRow_setCell_below (a:=⟨w.heap.size,4,none⟩) l4 (by show w.heap.size<w.heap.size+3;omega) (.bool d.clash)
 have b5:=Below.setCell b4 (p:=⟨w.heap.size,4,none⟩) (by show w.heap.size≤w.heap.size;omega) (.bool d.clash)
 obtain⟨WG,hWG⟩:∃ WF,(((((w7.setCell ⟨w.heap.size,0,none⟩ (.string d.tb)).setCell ⟨w.heap.size,1,none⟩ (.int .i64 (d.pos:Int))).setCell ⟨w.heap.size,2,none⟩ (.slice a2 d.nm.length k2)).setCell ⟨w.heap.size,3,none⟩ (.slice a3 d.cl.length k3)).setCell ⟨w.heap.size,4,none⟩ (.bool d.clash))=WF:=⟨_,rfl⟩
 rw [hWG] at y5 n5 l5 b5
 have q8:Row WG (w.heap.size+1) 9 #[.string q]:=by rw [← hWG];exact((((q7.other (a:=⟨w.heap.size,0,none⟩) (by simp) _).other (a:=⟨w.heap.size,1,none⟩) (by simp) _).other (a:=⟨w.heap.size,2,none⟩) (by simp) _).other (a:=⟨w.heap.size,3,none⟩) (by simp) _).other (a:=⟨w.heap.size,4,none⟩) (by simp) _
 have r8:Row WG (w.heap.size+2) 32 #[.string ⟨#[]⟩,.int .i64 0,.slice none 0 0,.slice none 0 0,.bool false]:=by rw [← hWG];exact((((r7.other (a:=⟨w.heap.size,0,none⟩) (by simp) _).other (a:=⟨w.heap.size,1,none⟩) (by simp) _).other (a:=⟨w.heap.size,2,none⟩) (by simp) _).other (a:=⟨w.heap.size,3,none⟩) (by simp) _).other (a:=⟨w.heap.size,4,none⟩) (by simp) _
 have hth:kt≠w.heap.size:=by omega
 have t8:Row WG kt 23 #[.string d.tb,.int .i64 (pp:Int)]:=by rw [← hWG];exact((((t7.other (a:=⟨w.heap.size,0,none⟩) hth _).other (a:=⟨w.heap.size,1,none⟩) hth _).other (a:=⟨w.heap.size,2,none⟩) hth _).other (a:=⟨w.heap.size,3,none⟩) hth _).other (a:=⟨w.heap.size,4,none⟩) hth _
 have Hy8:=Lib.hid y5
 have Hn8:=Lib.hid n5
 have Hl8:=Lib.hid l5
 have Hb8:=Lib.hid b5
 have Hq8:=Lib.hid q8
 have Hr8:=Lib.hid r8
 have Ht8:=Lib.hid t8
 clear y0 y1 y2 y3 y4 y5 n0 n1 n2 n3 n4 n5 l0 l1 l2 l3 l4 l5 b0 b1 b2 b3 b4 b5 q8 r8 t8 p7 q7 r7 t7 hn7 hc7 hb07 hn2 hc2 hb7 Hp6 Hq6 Hr6 Ho6 Ht6 Hb6
 go_upto_region 13 with fail
 obtain⟨i0,hi,hz0',hz1',hz2'⟩:=info_parts (show(Tryz.prog.info? 133).map (fun i=>(i.zero,i.size,i.bytes))=some (some (.agg #[.string ⟨#[]⟩,.string ⟨#[]⟩]),2,32) by kernel_rfl)
 have hG:w6.heap.size≤WG.heap.size:=by rw [← hWG];simpa [World.setCell] using hz7
 have g0:WG.cell? ⟨w.heap.size,0,none⟩=some (.string d.tb):=Hy8.out.cell 0
 have g2:WG.cell? ⟨w.heap.size,2,none⟩=some (.slice a2 d.nm.length k2):=Hy8.out.cell 2
 have gq:WG.cell? ⟨w.heap.size+1,0,none⟩=some (.string q):=Hq8.out.cell 0
 have u0:WG.cell? ⟨kt,0,none⟩=some (.string d.tb):=Ht8.out.cell 0
 have u1:WG.cell? ⟨kt,1,none⟩=some (.int .i64 (pp:Int)):=Ht8.out.cell 1
 have m1:w.heap.size<WG.heap.size:=Hy8.out.lt
 have m2:w.heap.size≠WG.heap.size:=by omega
 have m3:w.heap.size+1<WG.heap.size:=Hq8.out.lt
 have m4:w.heap.size+1≠WG.heap.size:=by omega
 have m5:kt<WG.heap.size:=Ht8.out.lt
 have m7:w.heap.size+2<WG.heap.size:=Hr8.out.lt
 have m6:kt≠WG.heap.size:=by omega
 have hbA:Below WG.heap.size WG ((WG.drew).alloc (.cells #[.string q,.string S] 133)):=((Below.refl _ WG).drew).alloc (Nat.le_refl _) _
 have hnA:NmAt ((WG.drew).alloc (.cells #[.string q,.string S] 133)) (w.heap.size+3) (.slice a2 d.nm.length k2) d.nm:=owns_below Hn8.out hbA
 have hbase:w.heap.size+3≤((WG.drew).alloc (.cells #[.string q,.string S] 133)).heap.size:=by have:=hbA.size;omega
 have hcA:ClAt ((WG.drew).alloc (.cells #[.string q,.string S] 133)) (w.heap.size+3) (.slice a3 d.cl.length k3) d.cl:=owns_below Hl8.out hbA
 have hclne:∀ k,(Value.slice a3 d.cl.length k3).ownBlock=some k→(Value.slice a2 d.nm.length k2).ownBlock≠some k:=fun k hk h=>two_rows hnA hcA (by decide) h hk
 have hnews:∀ j u,[Value.string q,Value.string S][j]? =some u→((WG.drew).alloc (.cells #[.string q,.string S] 133)).cell? ((⟨WG.heap.size,0,none⟩:Addr).add j)=some u:=fun j u hu=>by
  have h1:Row ((WG.drew).alloc (.cells #[.string q,.string S] 133)) WG.heap.size 133 #[.string q,.string S]:=Row.new WG.drew _ _
  rw [Addr.add_lit,Nat.zero_add,h1.cell j]
  simpa using hu
 have hone:∀ u∈[Value.string q,Value.string S],u.oneCell'=true:=fun u hu=>by
  rcases List.mem_cons.1 hu with rfl | hu
  · rfl
  · rw [List.mem_singleton] at hu;subst hu;rfl
 go_cut [10] from 53 to 62 (fun v wx=>v= .string S∧NewNm w w.heap.size d.tb pp d.clash (d.nm++[(q,S)]) d.cl wx)
 case first=>
  have hmix:Tryz.prog.follows .mixedOrders=true:=by kernel_rfl
  go_region_law (refine step_append_own rfl _ _ 29 rfl (w.heap.size+3) 133 i0 (.agg #[.string ⟨#[]⟩,.string ⟨#[]⟩]) 2 32 Tryz.underlying29 hi hz0' hz1' hz2' rfl (by decide) _ d.nm.length (Idl.nmCells d.nm) rfl hnA ⟨WG.heap.size,0,none⟩ 1 1 [.string q,.string S] rfl rfl hnews hone (by unfold maxLen;omega) (by omega) hbase ?_
                 intro v' wa hown' hgr
                 obtain⟨b1,kk1,rfl⟩:=slice_of hown'
                 have hka:Keep (fun k=>k<w6.heap.size) WG wa:=(Keep.below hbA).trans ((keep_grown hgr).mono fun k (hk:k<w6.heap.size) _ h=>by have:=hvb k h;omega)
                 have ya:=Hy8.out.keep hka (by omega)
                 have ra:=Hr8.out.keep hka (by omega)
                 have ta:=Ht8.out.keep hka hkt6
                 have e0:wa.cell? ⟨w.heap.size,0,none⟩=some (.string d.tb):=ya.cell 0
                 have e1:wa.cell? ⟨w.heap.size,1,none⟩=some (.int .i64 (d.pos:Int)):=ya.cell 1
                 have e2:wa.cell? ⟨w.heap.size,2,none⟩=some (.slice a2 d.nm.length k2):=ya.cell 2
                 have ef0:=ya.frozen 0
                 have ef1:=ya.frozen 1
                 have ef2:=ya.frozen 2
                 have eu0:wa.cell? ⟨kt,0,none⟩=some (.string d.tb):=ta.cell 0
                 have eu1:wa.cell? ⟨kt,1,none⟩=some (.int .i64 (pp:Int)):=ta.cell 1)
  all_goals
   have hca:=owns_keep hcA (keep_grown hgr) hclne
   have hba:=Hb8.out.trans (keep_below (B:=w.heap.size) hka (fun k hk=>by omega) (by omega))
   have hend:=newNm_end (pp:=pp) ya ra hown' hca hba
   clear hca hba ya ra ta hka hgr hown'
   go_wp2
   go_meet
   exact⟨rfl,hend⟩
 case rest=>
  obtain⟨rfl,nv',cv',hp',hr',hn',hc',hb'⟩:=hcut
  obtain⟨b1,kk1,hv1⟩:=slice_of hn'
  rw [show (d.nm++[(q,S)]).length=d.nm.length+1 by simp] at hv1
  subst hv1
  obtain⟨b2,kk2,rfl⟩:=slice_of hc'
  have Hp':=Lib.hid hp'
  have Hr':=Lib.hid hr'
  have Hn':=Lib.hid hn'
  have Hc':=Lib.hid hc'
  have Hb':=Lib.hid hb'
  have c0:=hp'.cell 0
  change World.cell? _ _=some _ at c0
  have c1:=hp'.cell 1
  change World.cell? _ _=some _ at c1
  have c2:=hp'.cell 2
  change World.cell? _ _=some _ at c2
  have c3:=hp'.cell 3
  change World.cell? _ _=some _ at c3
  have c4:=hp'.cell 4
  change World.cell? _ _=some _ at c4
  clear g0 g2 gq u0 u1 m1 m2 m3 m4 m5 m6 m7 hbA hnA hcA hclne hnews hone hp' hr' hn' hc' hb' Hy8 Hn8 Hl8 Hb8 Hq8 Hr8 Ht8 hG hWG hvb hwb hi hz0' hz1' hz2'
  go_wp2_with fail
  refine(Hcln.out _ _ _ _ _ _ (ownsRow_weak Hn'.out (Nat.zero_le _)) (ownsRow_weak Hc'.out (Nat.zero_le _))).mono ?_
  rintro e w9 ⟨rfl,hb9⟩
  have p9:=Hp'.out.below hb9 Hp'.out.lt
  have r9:=Hr'.out.below hb9 Hr'.out.lt
  have hn9:=owns_below Hn'.out hb9
  have hc9:=owns_below Hc'.out hb9
  have hb09:=Hb'.out.trans (hb9.mono Hb'.out.size)
  clear c0 c1 c2 c3 c4 hb9 Hp' Hr' Hn' Hc' Hb'
  have c0:w9.cell? ⟨w.heap.size,0,none⟩=some (.string d.tb):=p9.cell 0
  have c1:w9.cell? ⟨w.heap.size,1,none⟩=some (.int .i64 (pp:Int)):=p9.cell 1
  have c2:w9.cell? ⟨w.heap.size,2,none⟩=some (.slice b1 (d.nm.length+1) kk1):=p9.cell 2
  have c3:w9.cell? ⟨w.heap.size,3,none⟩=some (.slice b2 d.cl.length kk2):=p9.cell 3
  have c4:w9.cell? ⟨w.heap.size,4,none⟩=some (.bool d.clash):=p9.cell 4
  have f4:=p9.frozen 4
  obtain⟨w10,hw10⟩:∃ w10,w9.setCell ⟨w.heap.size,4,none⟩ (.bool ncl)=w10:=⟨_,rfl⟩
  have p10:Row w10 w.heap.size 32 #[.string d.tb,.int .i64 (pp:Int),.slice b1 (d.nm.length+1) kk1,.slice b2 d.cl.length kk2,.bool ncl]:=by rw [← hw10];exact p9.store 4 _
  have r10:Row w10 (w.heap.size+1+1) 32 #[.string ⟨#[]⟩,.int .i64 0,.slice none 0 0,.slice none 0 0,.bool false]:=by rw [← hw10];exact r9.other (a:=⟨w.heap.size,4,none⟩) (by simp) _
  have hn10:=ownsRow_setCell_below (a:=⟨w.heap.size,4,none⟩) hn9 (by show w.heap.size<w.heap.size+3;omega) (.bool ncl)
  have hc10:=ownsRow_setCell_below (a:=⟨w.heap.size,4,none⟩) hc9 (by show w.heap.size<w.heap.size+3;omega) (.bool ncl)
  have hb10:=hb09.setCell (p:=⟨w.heap.size,4,none⟩) (Nat.le_refl _) (.bool ncl)
  rw [hw10] at hn10 hc10 hb10
  clear p9 r9 hn9 hc9 hb09
  go_wp2
  clear c0 c1 c2 c3 c4 f4 hw10
  have c0:w10.cell? ⟨w.heap.size,0,none⟩=some (.string d.tb):=p10.cell 0
  have c1:w10.cell? ⟨w.heap.size,1,none⟩=some (.int .i64 (pp:Int)):=p10.cell 1
  have c2:w10.cell? ⟨w.heap.size,2,none⟩=some (.slice b1 (d.nm.length+1) kk1):=p10.cell 2
  have c3:w10.cell? ⟨w.heap.size,3,none⟩=some (.slice b2 d.cl.length kk2):=p10.cell 3
  have c4:w10.cell? ⟨w.heap.size,4,none⟩=some (.bool ncl):=p10.cell 4
  have g0:w10.cell? ⟨w.heap.size+1+1,0,none⟩=some (.string ⟨#[]⟩):=r10.cell 0
  have g1:w10.cell? ⟨w.heap.size+1+1,1,none⟩=some (.int .i64 0):=r10.cell 1
  have g2:w10.cell? ⟨w.heap.size+1+1,2,none⟩=some (.slice none 0 0):=r10.cell 2
  have g3:w10.cell? ⟨w.heap.size+1+1,3,none⟩=some (.slice none 0 0):=r10.cell 3
  have g4:w10.cell? ⟨w.heap.size+1+1,4,none⟩=some (.bool false):=r10.cell 4
  have e0f:=r10.frozen 0
  have e1f:=r10.frozen 1
  have e2f:=r10.frozen 2
  have e3f:=r10.frozen 3
  have e4f:=r10.frozen 4
  have Hr10:=Lib.hid r10
  have Hn10:=Lib.hid hn10
  have Hc10:=Lib.hid hc10
  have Hb10:=Lib.hid hb10
  clear p10 r10 hn10 hc10 hb10
  have y0:Row w10 (w.heap.size+1+1) 32 #[.string ⟨#[]⟩,.int .i64 0,.slice none 0 0,.slice none 0 0,.bool false]:=Hr10.out
  have n0:=Hn10.out
  have l0:=Hc10.out
  have bb0:=Hb10.out
  have y1:Row (w10.setCell ⟨w.heap.size+1+1,0,none⟩ (.string d.tb)) (w.heap.size+1+1) 32 #[.string d.tb,.int .i64 0,.slice none 0 0,.slice none 0 0,.bool false]:=y0.store 0 _
  have n1:=ownsRow_setCell_below (a:=⟨w.heap.size+1+1,0,none⟩) n0 (by show w.heap.size+1+1<w.heap.size+3;omega) (.string d.tb)
  have l1:=ownsRow_setCell_below (a:=⟨w.heap.size+1+1,0,none⟩) l0 (by show w.heap.size+1+1<w.heap.size+3;omega) (.string d.tb)
  have bb1:=Below.setCell bb0 (p:=⟨w.heap.size+1+1,0,none⟩) (by show w.heap.size≤w.heap.size+1+1;omega) (.string d.tb)
  have y2:Row ((w10.setCell ⟨w.heap.size+1+1,0,none⟩ (.string d.tb)).setCell ⟨w.heap.size+1+1,1,none⟩ (.int .i64 (pp:Int))) (w.heap.size+1+1) 32 #[.string d.tb,.int .i64 (pp:Int),.slice none 0 0,.slice none 0 0,.bool false]:=y1.store 1 _
  have n2:=ownsRow_setCell_below (a:=⟨w.heap.size+1+1,1,none⟩) n1 (by show w.heap.size+1+1<w.heap.size+3;omega) (.int .i64 (pp:Int))
  have l2:=ownsRow_setCell_below (a:=⟨w.heap.size+1+1,1,none⟩) l1 (by show w.heap.size+1+1<w.heap.size+3;omega) (.int .i64 (pp:Int))
  have bb2:=Below.setCell bb1 (p:=⟨w.heap.size+1+1,1,none⟩) (by show w.heap.size≤w.heap.size+1+1;omega) (.int .i64 (pp:Int))
  have y3:Row (((w10.setCell ⟨w.heap.size+1+1,0,none⟩ (.string d.tb)).setCell ⟨w.heap.size+1+1,1,none⟩ (.int .i64 (pp:Int))).setCell ⟨w.heap.size+1+1,2,none⟩ (.slice b1 (d.nm.length+1) kk1)) (w.heap.size+1+1) 32 #[.string d.tb,.int .i64 (pp:Int),.slice b1 (d.nm.length+1) kk1,.slice none 0 0,.bool false]:=y2.store 2 _
  have n3:=ownsRow_setCell_below (a:=⟨w.heap.size+1+1,2,none⟩) n2 (by show w.heap.size+1+1<w.heap.size+3;omega) (.slice b1 (d.nm.length+1) kk1)
  have l3:=ownsRow_setCell_below (a:=⟨w.heap.size+1+1,2,none⟩) l2 (by show w.heap.size+1+1<w.heap.size+3;omega) (.slice b1 (d.nm.length+1) kk1)
  have b3:=Below.setCell bb2 (p:=⟨w.heap.size+1+1,2,none⟩) (by show w.heap.size≤w.heap.size+1+1;omega) (.slice b1 (d.nm.length+1) kk1)
  have y4:Row ((((w10.setCell ⟨w.heap.size+1+1,0,none⟩ (.string d.tb)).setCell ⟨w.heap.size+1+1,1,none⟩ (.int .i64 (pp:Int))).setCell ⟨w.heap.size+1+1,2,none⟩ (.slice b1 (d.nm.length+1) kk1)).setCell ⟨w.heap.size+1+1,3,none⟩ (.slice b2 d.cl.length kk2)) (w.heap.size+1+1) 32 #[.string d.tb,.int .i64 (pp:Int),.slice b1 (d.nm.length+1) kk1,.slice b2 d.cl.length kk2,.bool false]:=y3.store 3 _
  have n4:=ownsRow_setCell_below (a:=⟨w.heap.size+1+1,3,none⟩) n3 (by show w.heap.size+1+1<w.heap.size+3;omega) (.slice b2 d.cl.length kk2)
  have l4:=ownsRow_setCell_below (a:=⟨w.heap.size+1+1,3,none⟩) l3 (by show w.heap.size+1+1<w.heap.size+3;omega) (.slice b2 d.cl.length kk2)
  have b4:=Below.setCell b3 (p:=⟨w.heap.size+1+1,3,none⟩) (by show w.heap.size≤w.heap.size+1+1;omega) (.slice b2 d.cl.length kk2)
  have y5:Row (((((w10.setCell ⟨w.heap.size+1+1,0,none⟩ (.string d.tb)).setCell ⟨w.heap.size+1+1,1,none⟩ (.int .i64 (pp:Int))).setCell ⟨w.heap.size+1+1,2,none⟩ (.slice b1 (d.nm.length+1) kk1)).setCell ⟨w.heap.size+1+1,3,none⟩ (.slice b2 d.cl.length kk2)).setCell ⟨w.heap.size+1+1,4,none⟩ (.bool ncl)) (w.heap.size+1+1) 32 #[.string d.tb,.int .i64 (pp:Int),.slice b1 (d.nm.length+1) kk1,.slice b2 d.cl.length kk2,.bool ncl]:=y4.store 4 _
  have n5:=ownsRow_setCell_below (a:=⟨w.heap.size+1+1,4,none⟩) n4 (by show w.heap.size+1+1<w.heap.size+3;omega) (.bool ncl)
  have l5:=ownsRow_setCell_below (a:=⟨w.heap.size+1+1,4,none⟩) l4 (by show w.heap.size+1+1<w.heap.size+3;omega) (.bool ncl)
  have b5:=Below.setCell b4 (p:=⟨w.heap.size+1+1,4,none⟩) (by show w.heap.size≤w.heap.size+1+1;omega) (.bool ncl)
  obtain⟨WF,hWF⟩:∃ WF,(((((w10.setCell ⟨w.heap.size+1+1,0,none⟩ (.string d.tb)).setCell ⟨w.heap.size+1+1,1,none⟩ (.int .i64 (pp:Int))).setCell ⟨w.heap.size+1+1,2,none⟩ (.slice b1 (d.nm.length+1) kk1)).setCell ⟨w.heap.size+1+1,3,none⟩ (.slice b2 d.cl.length kk2)).setCell ⟨w.heap.size+1+1,4,none⟩ (.bool ncl))=WF:=⟨_,rfl⟩
  rw [hWF] at y5 n5 l5 b5
  clear y0 y1 y2 y3 y4 n0 n1 n2 n3 n4 l0 l1 l2 l3 l4
  have Hy:=Lib.hid y5
  have Hn:=Lib.hid n5
  have Hl:=Lib.hid l5
  have Hbf:=Lib.hid b5
  clear y5 n5 l5 b5 Hr10 Hn10 Hc10 Hb10
  go_region
  all_goals
   go_wp2
   refine bodyPost_ret (results_tct _ _ (g:=w.heap.size+1+1) (t:=32) rfl rfl Hy.out.drew Tryz.underlying32 rfl (by kernel_rfl)) rfl ⟨_,_,rfl,?_,?_,?_⟩
   · exact ownsRow_weak (W:=WF.drew) Hn.out (by omega)
   · exact ownsRow_weak (W:=WF.drew) Hl.out (by omega)
   · exact Hbf.out.drew
theorem Label_short (d:Idl) (hg:d.Good) (nv cv:Value) (q:ByteArray) (hq:q.size≤100) (hf:q ∉ d.ins) (hl:d.nm.length≠2000) (hp:d.tb.size<d.pos+16) (w:World) (hN:NmAt w 0 nv d.nm) (hC:ClAt w 0 cv d.cl):
 Calls Tryz.prog 201 #[.agg (Idl.vals d.tb d.pos nv cv d.clash),.string q] w fun e w'=>∃ nv' cv',e= .returned (.tuple #[.string ⟨#[]⟩,.agg (Idl.vals d.tb d.pos nv' cv' d.clash),.int .i64 12])∧NmAt w' w.heap.size nv' d.nm∧ClAt w' w.heap.size cv' d.cl∧Below w.heap.size w w':=by
 have hnl:=hg.nms
 have hcl:=hg.cls
 have hOw:=fun w1 (hb:Below w.heap.size w w1)=>own_any d.tb d.pos nv cv d.clash d (by omega) (by omega) w1 (owns_below hN hb) (owns_below hC hb)
 have hRi:=fun w1 (hb:Below w.heap.size w w1)=>idealRight_any d hg nv cv w1 (owns_below hN hb) (owns_below hC hb)
 have hFi:=fun w1 (hb:Below w.heap.size w w1) (hr:Row w1 (w.heap.size+1) 9 #[.string q])=>findNm_any d.nm nv (fun x=>decide (x.1=q)) 219 #[.pointer (some ⟨w.heap.size+1,0,none⟩)] enters_label w1 (owns_below hN hb)
  (label_pred q (w.heap.size+1) _ (hr.alloc _).lt ((hr.alloc _).cell 0))
 obtain⟨na,nk,rfl⟩:=slice_of hN
 obtain⟨ca,ck,rfl⟩:=slice_of hC
 have hmf:∀(fn:Fn) (first cap:Array Value) (w:World),(Instr.makeFunc fn first cap).run Tryz.prog w= .ok (.func fn first cap) w:=fun _ _ _ _=>rfl
 unfold Idl.vals at*
 obtain⟨p0,q0,r0,hb0,hz0⟩:=box3 w #[.string d.tb,.int .i64 (d.pos:Int),.slice na d.nm.length nk,.slice ca d.cl.length ck,.bool d.clash] #[.string q] #[.string ⟨#[]⟩,.int .i64 0,.slice none 0 0,.slice none 0 0,.bool false] 32 9 32
 have iq:¬ (100:Int)<(q.size:Int):=by omega
 have HOw:=Lib.hid hOw
 have HRi:=Lib.hid hRi
 have HFi:=Lib.hid hFi
 have HNw:=Lib.hid hN
 have HCw:=Lib.hid hC
 clear hOw hRi hFi hN hC
 have hT:=fun w1=>Take_short d.tb d.pos 16 hg.tb hg.pos hp w1
 rw [show ((16:Nat):Int)=16 from rfl] at hT
 have HT:=Lib.hid hT
 clear hT
 go_enter Tryz.func201,Tryz.ntmps201
 go_wp2_with fail
 refine(HOw.out _ hb0).mono ?_
 rintro e w1 ⟨nvo,cvo,rfl,hno,hco,hb1⟩
 obtain⟨oa,ok_,rfl⟩:=slice_of hno
 obtain⟨oc,oc_,rfl⟩:=slice_of hco
 have p1:=p0.below hb1 p0.lt
 have q1:=q0.below hb1 q0.lt
 have r1:=r0.below hb1 r0.lt
 have hbx:Below w.heap.size w w1:=hb0.trans (hb1.mono hb0.size)
 have hk1:w.heap.size+3≤w1.heap.size:=by have:=hb1.size;omega
 obtain⟨k,hk⟩:∃ k,w1.heap.size=k:=⟨_,rfl⟩
 rw [hz0] at hno hco
 have c0:w1.cell? ⟨w.heap.size,0,none⟩=some (.string d.tb):=p1.cell 0
 have c1:w1.cell? ⟨w.heap.size,1,none⟩=some (.int .i64 (d.pos:Int)):=p1.cell 1
 have c2:w1.cell? ⟨w.heap.size,2,none⟩=some (.slice na d.nm.length nk):=p1.cell 2
 have c3:w1.cell? ⟨w.heap.size,3,none⟩=some (.slice ca d.cl.length ck):=p1.cell 3
 have c4:w1.cell? ⟨w.heap.size,4,none⟩=some (.bool d.clash):=p1.cell 4
 have cq:w1.cell? ⟨w.heap.size+1,0,none⟩=some (.string q):=q1.cell 0
 have hbo:Below w.heap.size w (w1.alloc (.cells #[.string d.tb,.int .i64 (d.pos:Int),.slice oa d.nm.length ok_,.slice oc d.cl.length oc_,.bool d.clash] 32)):=hbx.alloc hbx.size _
 have ho1:Row (w1.alloc (.cells #[.string d.tb,.int .i64 (d.pos:Int),.slice oa d.nm.length ok_,.slice oc d.cl.length oc_,.bool d.clash] 32)) k 32 #[.string d.tb,.int .i64 (d.pos:Int),.slice oa d.nm.length ok_,.slice oc d.cl.length oc_,.bool d.clash]:=by rw [← hk];exact Row.new w1 _ _
 have hno1:NmAt (w1.alloc (.cells #[.string d.tb,.int .i64 (d.pos:Int),.slice oa d.nm.length ok_,.slice oc d.cl.length oc_,.bool d.clash] 32)) (w.heap.size+3) (.slice oa d.nm.length ok_) d.nm:=owns_below hno ((Below.refl _ w1).alloc (Nat.le_refl _) _)
 have hco1:ClAt (w1.alloc (.cells #[.string d.tb,.int .i64 (d.pos:Int),.slice oa d.nm.length ok_,.slice oc d.cl.length oc_,.bool d.clash] 32)) (w.heap.size+3) (.slice oc d.cl.length oc_) d.cl:=owns_below hco ((Below.refl _ w1).alloc (Nat.le_refl _) _)
 have Ho1:=Lib.hid ho1
 have Hno1:=Lib.hid hno1
 have Hco1:=Lib.hid hco1
 have Hp1:=Lib.hid (p1.alloc (.cells #[.string d.tb,.int .i64 (d.pos:Int),.slice oa d.nm.length ok_,.slice oc d.cl.length oc_,.bool d.clash] 32))
 have Hq1:=Lib.hid (q1.alloc (.cells #[.string d.tb,.int .i64 (d.pos:Int),.slice oa d.nm.length ok_,.slice oc d.cl.length oc_,.bool d.clash] 32))
 have Hr1:=Lib.hid (r1.alloc (.cells #[.string d.tb,.int .i64 (d.pos:Int),.slice oa d.nm.length ok_,.slice oc d.cl.length oc_,.bool d.clash] 32))
 have Hbo:=Lib.hid hbo
 have n1:w.heap.size<k:=by omega
 have n2:w.heap.size≠k:=by omega
 have n3:w.heap.size+1<k:=by omega
 have n4:w.heap.size+1≠k:=by omega
 clear hno hco hno1 hco1 ho1 hbo hb1 hbx p0 q0 r0 p1 q1 r1 hb0
 go_wp2_with fail
 refine(HRi.out _ Hbo.out).mono ?_
 rintro e w2 ⟨rfl,hb2⟩
 have hsz2:=hb2.size
 rw [World.size_alloc,hk] at hsz2
 have p2:=Hp1.out.below hb2 Hp1.out.lt
 have q2:=Hq1.out.below hb2 Hq1.out.lt
 have r2:=Hr1.out.below hb2 Hr1.out.lt
 have o2:=Ho1.out.below hb2 Ho1.out.lt
 have hno2:=owns_below Hno1.out hb2
 have hco2:=owns_below Hco1.out hb2
 have hbx:Below w.heap.size w w2:=Hbo.out.trans (hb2.mono Hbo.out.size)
 clear n1 n2 n3 n4 c0 c1 c2 c3 c4 cq
 have c0:w2.cell? ⟨w.heap.size,0,none⟩=some (.string d.tb):=p2.cell 0
 have c1:w2.cell? ⟨w.heap.size,1,none⟩=some (.int .i64 (d.pos:Int)):=p2.cell 1
 have c2:w2.cell? ⟨w.heap.size,2,none⟩=some (.slice na d.nm.length nk):=p2.cell 2
 have c3:w2.cell? ⟨w.heap.size,3,none⟩=some (.slice ca d.cl.length ck):=p2.cell 3
 have c4:w2.cell? ⟨w.heap.size,4,none⟩=some (.bool d.clash):=p2.cell 4
 have cq:w2.cell? ⟨w.heap.size+1,0,none⟩=some (.string q):=q2.cell 0
 have Hp2:=Lib.hid p2
 have Hq2:=Lib.hid q2
 have Hr2:=Lib.hid r2
 have Ho2:=Lib.hid o2
 have Hno2:=Lib.hid hno2
 have Hco2:=Lib.hid hco2
 have Hbx:=Lib.hid hbx
 clear p2 q2 r2 o2 hno2 hco2 hbx hb2 Hp1 Hq1 Hr1 Ho1 Hno1 Hco1 Hbo
 go_wp2_with fail
 refine(HFi.out _ Hbx.out Hq2.out).mono ?_
 rintro e w3 ⟨hcase,hb3⟩
 have hsz3:=hb3.size
 have p3:=Hp2.out.below hb3 Hp2.out.lt
 have q3:=Hq2.out.below hb3 Hq2.out.lt
 have r3:=Hr2.out.below hb3 Hr2.out.lt
 have o3:=Ho2.out.below hb3 Ho2.out.lt
 have hno3:=owns_below Hno2.out hb3
 have hco3:=owns_below Hco2.out hb3
 have hbx:Below w.heap.size w w3:=Hbx.out.trans (hb3.mono Hbx.out.size)
 clear c0 c1 c2 c3 c4 cq Hp2 Hq2 Hr2 Ho2 Hno2 Hco2 Hbx hb3
 have hfd:d.nm.find? (fun x=>decide (x.1=q))=none:=Idl.label_none hf
 rw [hfd] at hcase
 rcases hcase with ⟨-,rfl⟩ | ⟨x,hx,-⟩
 rotate_left
 · cases hx
 obtain⟨w4,hw4⟩:∃ w4,w3.alloc (.cells #[.string ⟨#[]⟩,.string ⟨#[]⟩] 133)=w4:=⟨_,rfl⟩
 have hb4:Below w3.heap.size w3 w4:=by rw [← hw4];exact(Below.refl _ w3).alloc (Nat.le_refl _) _
 have p4:=p3.below hb4 p3.lt
 have q4:=q3.below hb4 q3.lt
 have r4:=r3.below hb4 r3.lt
 have o4:=o3.below hb4 o3.lt
 have hno4:=owns_below hno3 hb4
 have hco4:=owns_below hco3 hb4
 have hbx4:=hbx.trans (hb4.mono hbx.size)
 have hlen:((d.nm.length:Int) == 2000)=false:=by rw [beq_eq_false_iff_ne];omega
 have c0:w3.cell? ⟨w.heap.size,0,none⟩=some (.string d.tb):=p3.cell 0
 have c1:w3.cell? ⟨w.heap.size,1,none⟩=some (.int .i64 (d.pos:Int)):=p3.cell 1
 have c2:w3.cell? ⟨w.heap.size,2,none⟩=some (.slice na d.nm.length nk):=p3.cell 2
 have c3:w3.cell? ⟨w.heap.size,3,none⟩=some (.slice ca d.cl.length ck):=p3.cell 3
 have c4:w3.cell? ⟨w.heap.size,4,none⟩=some (.bool d.clash):=p3.cell 4
 have Hp4:=Lib.hid p4
 have Hq4:=Lib.hid q4
 have Hr4:=Lib.hid r4
 have Ho4:=Lib.hid o4
 have Hno4:=Lib.hid hno4
 have Hco4:=Lib.hid hco4
 have Hbx4:=Lib.hid hbx4
 have hk4:w3.heap.size≤w4.heap.size:=hb4.size
 have n1:w.heap.size<w3.heap.size:=p3.lt
 have n2:w.heap.size≠w3.heap.size:=by omega
 have Hw4:=Lib.hid hw4
 clear hno3 hco3 hbx p3 q3 r3 o3 hfd hb4 p4 q4 r4 o4 hno4 hco4 hbx4 hw4
 go_wp2_with fail
 rw [Hw4.out]
 clear c0 c1 c2 c3 c4 n1 n2
 refine(HT.out w4).mono ?_
 rintro e w5 ⟨rfl,hb5⟩
 clear HT
 obtain⟨w6,hw6⟩:∃ w6,w5.alloc (.cells #[.string d.tb,.int .i64 (d.pos:Int)] 23)=w6:=⟨_,rfl⟩
 have hb46:Below w4.heap.size w4 w6:=by rw [← hw6];exact hb5.alloc hb5.size _
 have r6:=Hr4.out.below hb46 Hr4.out.lt
 have o6:=Ho4.out.below hb46 Ho4.out.lt
 have Hno6:=Lib.hid (owns_below Hno4.out hb46)
 have Hco6:=Lib.hid (owns_below Hco4.out hb46)
 have Hb6:=Lib.hid (Hbx4.out.trans (hb46.mono Hbx4.out.size))
 clear Hp4 Hq4 Hr4 Ho4 Hno4 Hco4 Hbx4 hb5 hb46
 go_wp2
 clear hw6
 have y0:w6.cell? ⟨k,0,none⟩=some (.string d.tb):=o6.cell 0
 have y1:w6.cell? ⟨k,1,none⟩=some (.int .i64 (d.pos:Int)):=o6.cell 1
 have y2:w6.cell? ⟨k,2,none⟩=some (.slice oa d.nm.length ok_):=o6.cell 2
 have y3:w6.cell? ⟨k,3,none⟩=some (.slice oc d.cl.length oc_):=o6.cell 3
 have y4:w6.cell? ⟨k,4,none⟩=some (.bool d.clash):=o6.cell 4
 have e0:w6.cell? ⟨w.heap.size+1+1,0,none⟩=some (.string ⟨#[]⟩):=r6.cell 0
 have e1:w6.cell? ⟨w.heap.size+1+1,1,none⟩=some (.int .i64 0):=r6.cell 1
 have e2:w6.cell? ⟨w.heap.size+1+1,2,none⟩=some (.slice none 0 0):=r6.cell 2
 have e3:w6.cell? ⟨w.heap.size+1+1,3,none⟩=some (.slice none 0 0):=r6.cell 3
 have e4:w6.cell? ⟨w.heap.size+1+1,4,none⟩=some (.bool false):=r6.cell 4
 have f0:=r6.frozen 0
 have f1:=r6.frozen 1
 have f2:=r6.frozen 2
 have f3:=r6.frozen 3
 have f4:=r6.frozen 4
 have m5:w.heap.size+2≠k:=by omega
 have Hr6:=Lib.hid r6
 clear r6 o6
 have y0:Row w6 (w.heap.size+1+1) 32 #[.string ⟨#[]⟩,.int .i64 0,.slice none 0 0,.slice none 0 0,.bool false]:=Hr6.out
 have n0:=Hno6.out
 have l0:=Hco6.out
 have b0:=Hb6.out
 have y1:Row (w6.setCell ⟨w.heap.size+1+1,0,none⟩ (.string d.tb)) (w.heap.size+1+1) 32 #[.string d.tb,.int .i64 0,.slice none 0 0,.slice none 0 0,.bool false]:=y0.store 0 _
 have n1:=ownsRow_setCell_below (a:=⟨w.heap.size+1+1,0,none⟩) n0 (by show w.heap.size+1+1<w.heap.size+3;omega) (.string d.tb)
 have l1:=ownsRow_setCell_below (a:=⟨w.heap.size+1+1,0,none⟩) l0 (by show w.heap.size+1+1<w.heap.size+3;omega) (.string d.tb)
 have b1:=Below.setCell b0 (p:=⟨w.heap.size+1+1,0,none⟩) (by show w.heap.size≤w.heap.size+1+1;omega) (.string d.tb)
 have y2:Row ((w6.setCell ⟨w.heap.size+1+1,0,none⟩ (.string d.tb)).setCell ⟨w.heap.size+1+1,1,none⟩ (.int .i64 (d.pos:Int))) (w.heap.size+1+1) 32 #[.string d.tb,.int .i64 (d.pos:Int),.slice none 0 0,.slice none 0 0,.bool false]:=y1.store 1 _
 have n2:=ownsRow_setCell_below (a:=⟨w.heap.size+1+1,1,none⟩) n1 (by show w.heap.size+1+1<w.heap.size+3;omega) (.int .i64 (d.pos:Int))
 have l2:=ownsRow_setCell_below (a:=⟨w.heap.size+1+1,1,none⟩) l1 (by show w.heap.size+1+1<w.heap.size+3;omega) (.int .i64 (d.pos:Int))
 have b2:=Below.setCell b1 (p:=⟨w.heap.size+1+1,1,none⟩) (by show w.heap.size≤w.heap.size+1+1;omega) (.int .i64 (d.pos:Int))
 have y3:Row (((w6.setCell ⟨w.heap.size+1+1,0,none⟩ (.string d.tb)).setCell ⟨w.heap.size+1+1,1,none⟩ (.int .i64 (d.pos:Int))).setCell ⟨w.heap.size+1+1,2,none⟩ (.slice oa d.nm.length ok_)) (w.heap.size+1+1) 32 #[.string d.tb,.int .i64 (d.pos:Int),.slice oa d.nm.length ok_,.slice none 0 0,.bool false]:=y2.store 2 _
 have n3:=ownsRow_setCell_below (a:=⟨w.heap.size+1+1,2,none⟩) n2 (by show w.heap.size+1+1<w.heap.size+3;omega) (.slice oa d.nm.length ok_)
 have l3:=ownsRow_setCell_below (a:=⟨w.heap.size+1+1,2,none⟩) l2 (by show w.heap.size+1+1<w.heap.size+3;omega) (.slice oa d.nm.length ok_)
 have b3:=Below.setCell b2 (p:=⟨w.heap.size+1+1,2,none⟩) (by show w.heap.size≤w.heap.size+1+1;omega) (.slice oa d.nm.length ok_)
 have y4:Row ((((w6.setCell ⟨w.heap.size+1+1,0,none⟩ (.string d.tb)).setCell ⟨w.heap.size+1+1,1,none⟩ (.int .i64 (d.pos:Int))).setCell ⟨w.heap.size+1+1,2,none⟩ (.slice oa d.nm.length ok_)).setCell ⟨w.heap.size+1+1,3,none⟩ (.slice oc d.cl.length oc_)) (w.heap.size+1+1) 32 #[.string d.tb,.int .i64 (d.pos:Int),.slice oa d.nm.length ok_,.slice oc d.cl.length oc_,.bool false]:=y3.store 3 _
 have n4:=ownsRow_setCell_below (a:=⟨w.heap.size+1+1,3,none⟩) n3 (by show w.heap.size+1+1<w.heap.size+3;omega) (.slice oc d.cl.length oc_)
 have l4:=ownsRow_setCell_below (a:=⟨w.heap.size+1+1,3,none⟩) l3 (by show w.heap.size+1+1<w.heap.size+3;omega) (.slice oc d.cl.length oc_)
 have b4:=Below.setCell b3 (p:=⟨w.heap.size+1+1,3,none⟩) (by show w.heap.size≤w.heap.size+1+1;omega) (.slice oc d.cl.length oc_)
 have y5:Row (((((w6.setCell ⟨w.heap.size+1+1,0,none⟩ (.string d.tb)).setCell ⟨w.heap.size+1+1,1,none⟩ (.int .i64 (d.pos:Int))).setCell ⟨w.heap.size+1+1,2,none⟩ (.slice oa d.nm.length ok_)).setCell ⟨w.heap.size+1+1,3,none⟩ (.slice oc d.cl.length oc_)).setCell ⟨w.heap.size+1+1,4,none⟩ (.bool d.clash)) (w.heap.size+1+1) 32 #[.string d.tb,.int .i64 (d.pos:Int),.slice oa d.nm.length ok_,.slice oc d.cl.length oc_,.bool d.clash]:=y4.store 4 _
 have n5:=ownsRow_setCell_below (a:=⟨w.heap.size+1+1,4,none⟩) n4 (by show w.heap.size+1+1<w.heap.size+3;omega) (.bool d.clash)
 have l5:=ownsRow_setCell_below (a:=⟨w.heap.size+1+1,4,none⟩) l4 (by show w.heap.size+1+1<w.heap.size+3;omega) (.bool d.clash)
 have b5:=Below.setCell b4 (p:=⟨w.heap.size+1+1,4,none⟩) (by show w.heap.size≤w.heap.size+1+1;omega) (.bool d.clash)
 obtain⟨WF,hWF⟩:∃ WF,(((((w6.setCell ⟨w.heap.size+1+1,0,none⟩ (.string d.tb)).setCell ⟨w.heap.size+1+1,1,none⟩ (.int .i64 (d.pos:Int))).setCell ⟨w.heap.size+1+1,2,none⟩ (.slice oa d.nm.length ok_)).setCell ⟨w.heap.size+1+1,3,none⟩ (.slice oc d.cl.length oc_)).setCell ⟨w.heap.size+1+1,4,none⟩ (.bool d.clash))=WF:=⟨_,rfl⟩
 rw [hWF] at y5 n5 l5 b5
 clear n0 n1 n2 n3 n4 l0 l1 l2 l3 l4 b0 b1 b2 b3 b4
 have Hy:=Lib.hid y5
 have Hn:=Lib.hid n5
 have Hl:=Lib.hid l5
 have Hbf:=Lib.hid b5
 clear y5 n5 l5 b5 Hr6 Hno6 Hco6 Hb6
 go_region
 all_goals
  go_wp2
  refine bodyPost_ret (results_tct _ _ (g:=w.heap.size+1+1) (t:=32) rfl rfl Hy.out.drew Tryz.underlying32 rfl (by kernel_rfl)) rfl ⟨_,_,rfl,?_,?_,?_⟩
  · exact ownsRow_weak (W:=WF.drew) Hn.out (by omega)
  · exact ownsRow_weak (W:=WF.drew) Hl.out (by omega)
  · exact Hbf.out.drew
end Go.Proofs.YtpnbkfboneabaaaGreat
