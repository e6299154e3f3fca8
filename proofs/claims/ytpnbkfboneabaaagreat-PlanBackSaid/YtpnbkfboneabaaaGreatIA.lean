import Derived.Test.YtpnbkfboneabaaaGreatGA
import Derived.Deep.RegionWith
import Derived.Deep.CutRange
import Derived.Shelf.SlicesE.Clone
import Derived.Shelf.SlicesQ.IndexFunc
import Derived.Test.YtpnbkfboneabaaaGreatGF
set_option maxRecDepth 100000
set_option maxHeartbeats 1000000
namespace Go.Proofs.YtpnbkfboneabaaaGreat
def twice {α:Type} [DecidableEq α] (l:List α):Bool:= !decide l.Nodup
theorem twice_false {α:Type} [DecidableEq α] {l:List α}:twice l=false ↔ l.Nodup:=by simp [twice]
theorem twice_true {α:Type} [DecidableEq α] {l:List α}:twice l=true ↔ ¬ l.Nodup:=by simp [twice]
theorem twice_again {α:Type} [DecidableEq α] {pre rest:List α} {x:α} (h:x∈pre):twice (pre++x::rest)=true:=by
 rw [twice_true]
 intro hn
 rw [List.nodup_append] at hn
 exact hn.2.2 x h x (by simp) rfl
structure Idl where
 tb:ByteArray
 pos:Nat
 nm:List (ByteArray × ByteArray)
 cl:List (ByteArray × ByteArray × ByteArray)
namespace Idl
def ins (d:Idl):List ByteArray:=d.nm.map (·.1)
def outs (d:Idl):List ByteArray:=d.nm.map (·.2)
def made (d:Idl):List (ByteArray × ByteArray):=d.cl.map fun c=>(c.1,c.2.1)
def told (d:Idl):List (ByteArray × ByteArray):=d.cl.map fun c=>(c.1,c.2.2)
def clash (d:Idl):Bool:=twice d.outs || twice d.told
structure Good (d:Idl):Prop where
 tb:d.tb.size≤65536
 pos:d.pos≤d.tb.size
 nms:d.nm.length≤2000
 cls:d.cl.length≤2000
 nm:∀ n∈d.nm,n.1.size≤100∧n.2.size=16
 cl:∀ c∈d.cl,c.1.size=16∧c.2.1.size=24∧c.2.2.size=40
 ins:d.ins.Nodup
 made:d.made.Nodup
def label (d:Idl) (q:ByteArray):ByteArray × Idl × Int:=
 match d.nm.find? (fun n=>decide (n.1=q)) with
 | some n=>(n.2,d,0)
 | none=>
   if d.nm.length=2000 then (⟨#[]⟩,d,2)
   else if d.tb.size-d.pos<16 then (⟨#[]⟩,d,12)
   else (d.tb.extract d.pos (d.pos+16),{ d with pos:=d.pos+16,nm:=d.nm++[(q,d.tb.extract d.pos (d.pos+16))] },0)
def cell (d:Idl) (l t:ByteArray):ByteArray × Idl × Int:=
 match d.cl.find? (fun c=>decide (c.1=l∧c.2.1=t)) with
 | some c=>(c.2.2,d,0)
 | none=>
   if d.cl.length=2000 then (⟨#[]⟩,d,2)
   else if d.tb.size-d.pos<40 then (⟨#[]⟩,d,12)
   else (d.tb.extract d.pos (d.pos+40),{ d with pos:=d.pos+40,cl:=d.cl++[(l,t,d.tb.extract d.pos (d.pos+40))] },0)
def opens (d:Idl) (l c:ByteArray):ByteArray × Int:=
 match d.cl.find? (fun x=>decide (x.1=l∧x.2.2=c)) with
 | some x=>(x.2.1,0)
 | none=>(⟨#[]⟩,11)
theorem find_first {α β:Type} [DecidableEq β] {l:List α} {f:α→β} (h:(l.map f).Nodup) {x:α} (hx:x∈l) {p:α→Bool} (hp:∀ y,p y=true ↔ f y=f x):l.find? p=some x:=by
 induction l with
 | nil=>cases hx
 | cons y l ih=>
   rw [List.map_cons,List.nodup_cons] at h
   rw [List.find?_cons]
   by_cases hy:f y=f x
   · rw [(hp y).2 hy]
     rcases List.mem_cons.1 hx with rfl | hx
     · rfl
     · exact absurd (hy ▸ List.mem_map_of_mem hx) h.1
   · have hpy:p y=false:=by
      cases hc:p y with
      | false=>rfl
      | true=>exact absurd ((hp y).1 hc) hy
     rw [hpy]
     rcases List.mem_cons.1 hx with rfl | hx
     · exact absurd rfl hy
     · exact ih h.2 hx
theorem label_found {d:Idl} (hg:d.Good) {q s:ByteArray} (h:(q,s)∈d.nm):d.label q=(s,d,0):=by
 have hf:d.nm.find? (fun n=>decide (n.1=q))=some (q,s):=find_first (f:=fun n:ByteArray × ByteArray=>n.1) hg.ins h (by simp)
 unfold label
 rw [hf]
theorem cell_found {d:Idl} (hg:d.Good) {l t c:ByteArray} (h:(l,t,c)∈d.cl):d.cell l t=(c,d,0):=by
 have hf:d.cl.find? (fun x=>decide (x.1=l∧x.2.1=t))=some (l,t,c):=
  find_first (f:=fun x:ByteArray × ByteArray × ByteArray=>(x.1,x.2.1)) hg.made h (by simp)
 unfold cell
 rw [hf]
theorem opens_found {d:Idl} {l t c:ByteArray} (h:(l,t,c)∈d.cl):∃ t',d.opens l c=(t',0)∧(d.clash=false→t'=t):=by
 unfold opens
 cases hc:d.cl.find? (fun x=>decide (x.1=l∧x.2.2=c)) with
 | none=>
   have:=List.find?_eq_none.1 hc _ h
   simp at this
 | some x=>
   refine⟨x.2.1,rfl,fun hn=> ?_⟩
   have hnd:d.told.Nodup:=twice_false.1 (by unfold clash at hn;exact(Bool.or_eq_false_iff.1 hn).2)
   have hf:d.cl.find? (fun x=>decide (x.1=l∧x.2.2=c))=some (l,t,c):=
    find_first (f:=fun x:ByteArray × ByteArray × ByteArray=>(x.1,x.2.2)) hnd h (by simp)
   rw [hf] at hc
   rw [← Option.some.inj hc]
theorem label_none {d:Idl} {q:ByteArray} (h:q ∉ d.ins):d.nm.find? (fun n=>decide (n.1=q))=none:=by
 rw [List.find?_eq_none]
 intro n hn he
 exact h (by rw [← of_decide_eq_true he];exact List.mem_map_of_mem hn)
theorem cell_none {d:Idl} {l t:ByteArray} (h:(l,t) ∉ d.made):d.cl.find? (fun x=>decide (x.1=l∧x.2.1=t))=none:=by
 rw [List.find?_eq_none]
 intro n hn he
 have h2:=of_decide_eq_true he
 exact h (by rw [← h2.1,← h2.2];exact List.mem_map.2 ⟨n,hn,rfl⟩)
def named (d:Idl) (q:ByteArray):Idl:={ d with pos:=d.pos+16,nm:=d.nm++[(q,d.tb.extract d.pos (d.pos+16))] }
def celled (d:Idl) (l t:ByteArray):Idl:={ d with pos:=d.pos+40,cl:=d.cl++[(l,t,d.tb.extract d.pos (d.pos+40))] }
theorem label_new {d:Idl} {q:ByteArray} (h:q ∉ d.ins) (h1:d.nm.length≠2000) (h2:d.pos+16≤d.tb.size):d.label q=(d.tb.extract d.pos (d.pos+16),d.named q,0):=by
 unfold label
 rw [label_none h]
 dsimp only
 rw [if_neg h1,if_neg (by omega)]
 rfl
theorem cell_new {d:Idl} {l t:ByteArray} (h:(l,t) ∉ d.made) (h1:d.cl.length≠2000) (h2:d.pos+40≤d.tb.size):d.cell l t=(d.tb.extract d.pos (d.pos+40),d.celled l t,0):=by
 unfold cell
 rw [cell_none h]
 dsimp only
 rw [if_neg h1,if_neg (by omega)]
 rfl
theorem nodup_snoc {α:Type} {l:List α} {x:α} (h:l.Nodup) (hx:x ∉ l):(l++[x]).Nodup:=by
 rw [List.nodup_append]
 refine⟨h,by simp,fun a ha b hb=> ?_⟩
 rw [List.mem_singleton] at hb
 subst hb
 exact fun e=>hx (e ▸ ha)
theorem Good.named {d:Idl} (hg:d.Good) {q:ByteArray} (hq:q.size≤100) (h:q ∉ d.ins) (h1:d.nm.length≠2000) (h2:d.pos+16≤d.tb.size):(d.named q).Good:=by
 refine⟨hg.tb,h2,?_,hg.cls,?_,hg.cl,?_,hg.made⟩
 · have:=hg.nms;simp [Idl.named];omega
 · intro n hn
   rcases List.mem_append.1 hn with hn | hn
   · exact hg.nm n hn
   · rw [List.mem_singleton] at hn
     subst hn
     refine⟨hq,?_⟩
     rw [ByteArray.size_extract];omega
 · show(List.map _ (d.nm++[_])).Nodup
   rw [List.map_append]
   exact nodup_snoc hg.ins h
theorem Good.celled {d:Idl} (hg:d.Good) {l t:ByteArray} (hl:l.size=16) (ht:t.size=24) (h:(l,t) ∉ d.made) (h1:d.cl.length≠2000) (h2:d.pos+40≤d.tb.size):(d.celled l t).Good:=by
 refine⟨hg.tb,h2,hg.nms,?_,hg.nm,?_,hg.ins,?_⟩
 · have:=hg.cls;simp [Idl.celled];omega
 · intro n hn
   rcases List.mem_append.1 hn with hn | hn
   · exact hg.cl n hn
   · rw [List.mem_singleton] at hn
     subst hn
     refine⟨hl,ht,?_⟩
     rw [ByteArray.size_extract];omega
 · show(List.map _ (d.cl++[_])).Nodup
   rw [List.map_append]
   exact nodup_snoc hg.made h
def fed (d:Idl) (s:ByteArray) (p:Nat):Idl:={ d with tb:=s,pos:=p }
theorem Good.fed {d:Idl} (hg:d.Good) {s:ByteArray} {p:Nat} (h1:s.size≤65536) (h2:p≤s.size):(d.fed s p).Good:=⟨h1,h2,hg.nms,hg.cls,hg.nm,hg.cl,hg.ins,hg.made⟩
end Idl
end Go.Proofs.YtpnbkfboneabaaaGreat
namespace Go.Proofs.YtpnbkfboneabaaaGreat
open Go.RowKit
theorem cut_cut (b:ByteArray) (p n:Nat) (h:p+n≤b.size):(b.extract p b.size).extract 0 n=b.extract p (p+n):=by
 rw [← strOf_bytesOf ((b.extract p b.size).extract 0 n),← strOf_bytesOf (b.extract p (p+n))]
 congr 1
 have h1:(b.extract p b.size).size=b.size-p:=by rw [ByteArray.size_extract];omega
 rw [bytesOf_extract (b.extract p b.size) _ _ (by omega),bytesOf_extract b p b.size (by omega),bytesOf_extract b p (p+n) (by omega),List.drop_zero,List.take_take,show min (n-0) (b.size-p)=p+n-p by omega]
section
variable {P:Program} {fn:Func} {ty:TypeId} (tmps:Array Value) (w:World) {g:Nat} {t:TypeId} {cs:Array Value} {d:TypeDesc}
theorem results_tct {i p k:Tmp} (h:fn.results=#[.tmp i,.cell p ty,.tmp k]) (hp:tmps.getD p undef= .pointer (some ⟨g,0,none⟩)) (hg:Row w g t cs)
 (hu:P.underlying ty=some d) (hd:(match d with | .struct _ | .array _ _=>true | _=>false)=true) (hi:(P.info? ty).map (·.size)=some cs.size):
 (results fn tmps).run P w= .ok (.tuple #[tmps.getD i undef,.agg cs,tmps.getD k undef]) w:=by
 have hp':tmps[p]?.getD undef= .pointer (some ⟨g,0,none⟩):=by simpa using hp
 simp [results,h,hp',asAddr,run_loadVar_row w g t ty cs (0,0) d hg hu hd hi]
theorem results_ct {p k:Tmp} (h:fn.results=#[.cell p ty,.tmp k]) (hp:tmps.getD p undef= .pointer (some ⟨g,0,none⟩)) (hg:Row w g t cs)
 (hu:P.underlying ty=some d) (hd:(match d with | .struct _ | .array _ _=>true | _=>false)=true) (hi:(P.info? ty).map (·.size)=some cs.size):
 (results fn tmps).run P w= .ok (.tuple #[.agg cs,tmps.getD k undef]) w:=by
 have hp':tmps[p]?.getD undef= .pointer (some ⟨g,0,none⟩):=by simpa using hp
 simp [results,h,hp',asAddr,run_loadVar_row w g t ty cs (0,0) d hg hu hd hi]
end
theorem box2 (w:World) (cs ds:Array Value) (t u:TypeId):Row ((w.alloc (.cells cs t)).alloc (.cells ds u)) w.heap.size t cs∧Row ((w.alloc (.cells cs t)).alloc (.cells ds u)) (w.heap.size+1) u ds∧
 Below w.heap.size w ((w.alloc (.cells cs t)).alloc (.cells ds u))∧((w.alloc (.cells cs t)).alloc (.cells ds u)).heap.size=w.heap.size+2:=by
 refine⟨(Row.new w _ _).alloc _,?_,((Below.refl _ w).alloc (Nat.le_refl _) _).alloc (by simp) _,by simp⟩
 have h1:=Row.new (w.alloc (.cells cs t)) u ds
 rwa [World.size_alloc] at h1
theorem box3 (w:World) (cs ds es:Array Value) (t u v:TypeId):Row (((w.alloc (.cells cs t)).alloc (.cells ds u)).alloc (.cells es v)) w.heap.size t cs∧Row (((w.alloc (.cells cs t)).alloc (.cells ds u)).alloc (.cells es v)) (w.heap.size+1) u ds∧
 Row (((w.alloc (.cells cs t)).alloc (.cells ds u)).alloc (.cells es v)) (w.heap.size+2) v es∧
 Below w.heap.size w (((w.alloc (.cells cs t)).alloc (.cells ds u)).alloc (.cells es v))∧(((w.alloc (.cells cs t)).alloc (.cells ds u)).alloc (.cells es v)).heap.size=w.heap.size+3:=by
 obtain⟨h1,h2,h3,h4⟩:=box2 w cs ds t u
 refine⟨h1.alloc _,h2.alloc _,?_,h3.alloc (by omega) _,by simp⟩
 have h1:=Row.new ((w.alloc (.cells cs t)).alloc (.cells ds u)) v es
 rwa [h4] at h1
theorem tapeRight_any (b:ByteArray) (p:Nat) (h1:b.size≤65536) (h2:p≤b.size) (w:World):
 Calls Tryz.prog 102 #[.agg #[.string b,.int .i64 (p:Int)]] w fun e w'=>e= .returned (.bool true)∧Below w.heap.size w w':=by
 go_enter Tryz.func102,Tryz.ntmps102
 go_wp2
 go_ret
 exact⟨rfl,(Below.refl _ w).alloc (Nat.le_refl _) _⟩
theorem tapeLeft_any (b:ByteArray) (p:Nat) (h1:b.size≤65536) (h2:p≤b.size) (w:World):
 Calls Tryz.prog 225 #[.agg #[.string b,.int .i64 (p:Int)]] w fun e w'=>e= .returned (.int .i64 ((b.size-p:Nat):Int))∧Below w.heap.size w w':=by
 have HR:=Lib.hid (fun w=>tapeRight_any b p h1 h2 w)
 have hz:IntKind.i64.wrap ((b.size:Int)-(p:Int))=((b.size-p:Nat):Int):=by rw [IntWalk.i64_in _ (by omega)];omega
 have hr0:=Row.new w 23 #[.string b,.int .i64 (p:Int)]
 have hb0:Below w.heap.size w (w.alloc (.cells #[.string b,.int .i64 (p:Int)] 23)):=(Below.refl _ w).alloc (Nat.le_refl _) _
 go_enter Tryz.func225,Tryz.ntmps225
 go_wp2_with fail
 refine(HR.out _).mono ?_
 rintro e w1 ⟨rfl,hb1⟩
 have hr1:=hr0.below hb1 hr0.lt
 have c0:=hr1.cell 0
 have c1:=hr1.cell 1
 have Hb:=Lib.hid (below_seq hb0 hb1)
 change w1.cell? _=some _ at c0 c1
 clear hb1 hr1 hr0 hb0
 go_wp2
 go_ret
 exact⟨rfl,Hb.out⟩
theorem Take_any (b:ByteArray) (p n:Nat) (h1:b.size≤65536) (h2:p+n≤b.size) (w:World):
 Calls Tryz.prog 210 #[.agg #[.string b,.int .i64 (p:Int)],.int .i64 (n:Int)] w fun e w'=>e= .returned (.tuple #[.string (b.extract p (p+n)),.agg #[.string b,.int .i64 ((p+n:Nat):Int)],.int .i64 0])∧Below w.heap.size w w':=by
 have HR:=Lib.hid (fun w=>tapeRight_any b p h1 (by omega) w)
 have HL:=Lib.hid (fun w=>tapeLeft_any b p h1 (by omega) w)
 have hcc:=cut_cut b p n h2
 have hs1:=fun W=>sl_lo b (p:Int) p rfl (by omega) W
 have hs2:=fun W=>sl_hi (b.extract p b.size) (n:Int) n rfl (by rw [ByteArray.size_extract];omega) W
 rw [hcc] at hs2
 have hg:¬ (n:Int) > ((b.size-p:Nat):Int):=by omega
 have hg2:((b.size-p:Nat):Int)=(b.size:Int)-(p:Int):=by omega
 have hpn:((p+n:Nat):Int)=(p:Int)+(n:Int):=by omega
 rw [hpn]
 obtain⟨p0,q0,hb0,hz0⟩:=box2 w #[.string b,.int .i64 (p:Int)] #[.string ⟨#[]⟩,.int .i64 0] 23 23
 go_enter Tryz.func210,Tryz.ntmps210
 go_wp2_with fail
 refine(HR.out _).mono ?_
 rintro e w1 ⟨rfl,hb1⟩
 have p1:=p0.below hb1 p0.lt
 have q1:=q0.below hb1 q0.lt
 have hb01:=below_seq hb0 hb1
 have c0:=p1.cell 0
 have c1:=p1.cell 1
 change w1.cell? _=some _ at c0 c1
 have Hp:=Lib.hid p1
 have Hq:=Lib.hid q1
 have Hb:=Lib.hid hb01
 clear p0 q0 hb0 hb1 p1 q1 hb01
 go_wp2_with fail
 refine(HL.out _).mono ?_
 rintro e w2 ⟨rfl,hb2⟩
 have p2:=Hp.out.below hb2 Hp.out.lt
 have q2:=Hq.out.below hb2 Hq.out.lt
 have Hb2:=Lib.hid (below_seq Hb.out hb2)
 have d0:=p2.cell 0
 have d1:=p2.cell 1
 have Hq2:=Lib.hid q2
 have f1:=p2.frozen 1
 have q2f:=q2.frozen 0
 have q2g:=q2.frozen 1
 have q2c:=q2.cell 0
 have q2d:=q2.cell 1
 change w2.cell? _=some _ at d0 d1 q2c q2d
 clear p2 q2 hb2 Hp Hq Hb c0 c1
 go_wp2
 go_region
 all_goals
  go_wp2
  refine bodyPost_ret (results_tct _ _ (g:=w.heap.size+1) (t:=23) (cs:=#[.string b,.int .i64 ((p:Int)+(n:Int))]) rfl rfl ?_ Tryz.underlying23 rfl (by kernel_rfl)) rfl ⟨rfl,?_⟩
  · exact((Hq2.out.other (a:=⟨w.heap.size,1,none⟩) (by simp) _).store 0 _).store 1 _
  · exact((((Hb2.out.setCell (p:=⟨w.heap.size,1,none⟩) (Nat.le_refl _) _).setCell (p:=⟨w.heap.size+1,0,none⟩) (Nat.le_succ _) _).setCell (p:=⟨w.heap.size+1,1,none⟩) (Nat.le_succ _) _).drew)
theorem Take_short (b:ByteArray) (p n:Nat) (h1:b.size≤65536) (h2:p≤b.size) (h3:b.size<p+n) (w:World):
 Calls Tryz.prog 210 #[.agg #[.string b,.int .i64 (p:Int)],.int .i64 (n:Int)] w fun e w'=>e= .returned (.tuple #[.string ⟨#[]⟩,.agg #[.string b,.int .i64 (p:Int)],.int .i64 12])∧Below w.heap.size w w':=by
 have HR:=Lib.hid (fun w=>tapeRight_any b p h1 h2 w)
 have HL:=Lib.hid (fun w=>tapeLeft_any b p h1 h2 w)
 have hg2:((b.size-p:Nat):Int)=(b.size:Int)-(p:Int):=by omega
 have hg3:(b.size:Int)-(p:Int)<(n:Int):=by omega
 have hn0:¬ (n:Int)<0:=by omega
 obtain⟨p0,q0,hb0,hz0⟩:=box2 w #[.string b,.int .i64 (p:Int)] #[.string ⟨#[]⟩,.int .i64 0] 23 23
 go_enter Tryz.func210,Tryz.ntmps210
 go_wp2_with fail
 refine(HR.out _).mono ?_
 rintro e w1 ⟨rfl,hb1⟩
 have p1:=p0.below hb1 p0.lt
 have q1:=q0.below hb1 q0.lt
 have hb01:=below_seq hb0 hb1
 have c0:=p1.cell 0
 have c1:=p1.cell 1
 change w1.cell? _=some _ at c0 c1
 have Hp:=Lib.hid p1
 have Hq:=Lib.hid q1
 have Hb:=Lib.hid hb01
 clear p0 q0 hb0 hb1 p1 q1 hb01
 go_wp2_with fail
 refine(HL.out _).mono ?_
 rintro e w2 ⟨rfl,hb2⟩
 have p2:=Hp.out.below hb2 Hp.out.lt
 have q2:=Hq.out.below hb2 Hq.out.lt
 have Hb2:=Lib.hid (Hb.out.trans (hb2.mono Hb.out.size))
 have d0:=p2.cell 0
 have d1:=p2.cell 1
 have Hq2:=Lib.hid q2
 have q2f:=q2.frozen 0
 have q2g:=q2.frozen 1
 have q2c:=q2.cell 0
 have q2d:=q2.cell 1
 change w2.cell? _=some _ at d0 d1 q2c q2d
 clear p2 q2 hb2 Hp Hq Hb c0 c1
 go_wp2
 go_region
 all_goals
  go_wp2
  refine bodyPost_ret (results_tct _ _ (g:=w.heap.size+1) (t:=23) (cs:=#[.string b,.int .i64 (p:Int)]) rfl rfl ?_ Tryz.underlying23 rfl (by kernel_rfl)) rfl ⟨rfl,?_⟩
  · exact(Hq2.out.store 0 _).store 1 _
  · exact((Hb2.out.setCell (p:=⟨w.heap.size+1,0,none⟩) (Nat.le_succ _) _).setCell (p:=⟨w.heap.size+1,1,none⟩) (Nat.le_succ _) _).drew
end Go.Proofs.YtpnbkfboneabaaaGreat
namespace Go.Proofs.YtpnbkfboneabaaaGreat
open Go.RowKit
def Idl.nmCells (l:List (ByteArray × ByteArray)):List Value:=l.flatMap fun n=>[.string n.1,.string n.2]
def Idl.clCells (l:List (ByteArray × ByteArray × ByteArray)):List Value:=l.flatMap fun c=>[.string c.1,.string c.2.1,.string c.2.2]
theorem Idl.nmCells_length (l:List (ByteArray × ByteArray)):(Idl.nmCells l).length=l.length*2:=by
 induction l with
 | nil=>rfl
 | cons x l ih=>simp only [Idl.nmCells,List.flatMap_cons,List.length_append,List.length_cons,List.length_nil] at *;omega
theorem Idl.clCells_length (l:List (ByteArray × ByteArray × ByteArray)):(Idl.clCells l).length=l.length*3:=by
 induction l with
 | nil=>rfl
 | cons x l ih=>simp only [Idl.clCells,List.flatMap_cons,List.length_append,List.length_cons,List.length_nil] at *;omega
theorem Idl.nmCells_one (l:List (ByteArray × ByteArray)):∀ u∈Idl.nmCells l,u.oneCell'=true:=by
 intro u hu
 obtain⟨n,_,hn⟩:=List.mem_flatMap.1 hu
 simp at hn
 rcases hn with rfl | rfl <;> rfl
theorem Idl.clCells_one (l:List (ByteArray × ByteArray × ByteArray)):∀ u∈Idl.clCells l,u.oneCell'=true:=by
 intro u hu
 obtain⟨n,_,hn⟩:=List.mem_flatMap.1 hu
 simp at hn
 rcases hn with rfl | rfl | rfl <;> rfl
theorem Idl.nmCells_append (a b:List (ByteArray × ByteArray)):Idl.nmCells (a++b)=Idl.nmCells a++Idl.nmCells b:=by simp [Idl.nmCells]
theorem Idl.clCells_append (a b:List (ByteArray × ByteArray × ByteArray)):Idl.clCells (a++b)=Idl.clCells a++Idl.clCells b:=by simp [Idl.clCells]
def NmAt (W:World) (B:Nat) (v:Value) (l:List (ByteArray × ByteArray)):Prop:=W.ownsRow B 133 2 v l.length (Idl.nmCells l)
def ClAt (W:World) (B:Nat) (v:Value) (l:List (ByteArray × ByteArray × ByteArray)):Prop:=W.ownsRow B 136 3 v l.length (Idl.clCells l)
theorem ownsRow_weak {W:World} {B C:Nat} {e:TypeId} {s:Nat} {v:Value} {n:Nat} {xs:List Value} (h:W.ownsRow B e s v n xs) (hc:C≤B):W.ownsRow C e s v n xs:=by
 refine⟨h.1,?_⟩
 rcases h.2 with hn | ⟨g,cap,cur,hv,hb,hg,rest⟩
 · exact .inl hn
 · exact .inr ⟨g,cap,cur,hv,Nat.le_trans hc hb,hg,rest⟩
theorem ownsRow_cases {W:World} {B:Nat} {e:TypeId} {s:Nat} {v:Value} {n:Nat} {xs:List Value} (h:W.ownsRow B e s v n xs) (hs:0<s):
 (v= .slice none 0 0∧n=0∧xs=[])∨∃ g cap,v= .slice (some ⟨g,0,none⟩) n cap∧B≤g∧g<W.heap.size∧n≤maxLen∧∀ j u,xs[j]? =some u→W.cell? ⟨g,j,none⟩=some u:=by
 rcases h.2 with ⟨h1,rfl⟩ | ⟨g,cap,cur,hv,hb,hg,hn,hm,hz,hx⟩
 · have h0:=h.1
   rw [Nat.zero_mul] at h0
   exact .inl ⟨h1,rfl,List.length_eq_zero_iff.1 h0⟩
 · refine .inr ⟨g,cap,hv,hb,(Array.getElem?_eq_some_iff.1 hg).1,by omega,fun j u hu=> ?_⟩
   have _:=hs
   rw [← hx] at hu
   have hj:j<n*s:=by
    by_cases hj:j<n*s
    · exact hj
    · rw [List.getElem?_eq_none (by rw [List.length_take];omega)] at hu;cases hu
   rw [List.getElem?_take_of_lt hj,Array.getElem?_toList] at hu
   rw [cell_of_row W g j cur e (0,0) hg]
   exact hu
def renNm:Go.Shelf.Ren:=⟨fun | 41=>75 | n=>n,fun | 4=>4 | 22=>29 | 23=>133 | n=>n,fun n=>n⟩
theorem layNm:SlLaysE0.n41 Tryz.prog renNm:={
 mixed:=by kernel_rfl
 f41:=⟨Tryz.f75.name,by decide,Tryz.func75.trans (congrArg some (by kernel_rfl))⟩
 t4:=Tryz.underlying4
 a4:=Tryz.isAgg4
 z4:=Tryz.sizeOf4
 v4:=Tryz.zeroValue4
 t22:=Tryz.underlying29
 a22:=Tryz.isAgg29
 z22:=Tryz.sizeOf29
 v22:=Tryz.zeroValue29 }
def renCl:Go.Shelf.Ren:=⟨fun | 41=>76 | n=>n,fun | 4=>4 | 22=>30 | 23=>136 | n=>n,fun n=>n⟩
theorem layCl:SlLaysE0.n41 Tryz.prog renCl:={
 mixed:=by kernel_rfl
 f41:=⟨Tryz.f76.name,by decide,Tryz.func76.trans (congrArg some (by kernel_rfl))⟩
 t4:=Tryz.underlying4
 a4:=Tryz.isAgg4
 z4:=Tryz.sizeOf4
 v4:=Tryz.zeroValue4
 t22:=Tryz.underlying30
 a22:=Tryz.isAgg30
 z22:=Tryz.sizeOf30
 v22:=Tryz.zeroValue30 }
theorem cloneNm_any (l:List (ByteArray × ByteArray)) (v:Value) (w:World) (h:NmAt w 0 v l) (hl:l.length≤100000):
 Calls Tryz.prog 75 #[v] w fun e w'=>∃ v',e= .returned v'∧NmAt w' w.heap.size v' l∧Below w.heap.size w w':=by
 obtain⟨i0,hi,hz0,hz1,hz2⟩:=info_parts (show(Tryz.prog.info? 133).map (fun i=>(i.zero,i.size,i.bytes))=some (some (.agg #[.string ⟨#[]⟩,.string ⟨#[]⟩]),2,32) by kernel_rfl)
 rcases ownsRow_cases h (by decide) with ⟨rfl,h1,h2⟩ | ⟨g,cap,rfl,-,hg,hm,hc⟩
 · obtain rfl:=List.length_eq_zero_iff.1 h1
   exact(AnyE.slices_Clone_nil layNm 0 0 w).mono fun e w' ⟨he,hw⟩=>⟨_,he,⟨rfl,.inl ⟨rfl,rfl⟩⟩,hw ▸ Below.refl _ _⟩
 · refine(AnyE.slices_Clone layNm i0 (.agg #[.string ⟨#[]⟩,.string ⟨#[]⟩]) 2 32 hi hz0 hz1 hz2 rfl (by decide) Tryz.sizeOf133 g 0 l.length cap (Idl.nmCells l) w (Idl.nmCells_length l) hm (by omega) (fun j u hu=>by rw [Nat.zero_add];exact hc j u hu) (Idl.nmCells_one l)).mono ?_
   rintro e w' ⟨v',he,hown,-,hb⟩
   exact⟨v',he,hown,hb⟩
theorem cloneCl_any (l:List (ByteArray × ByteArray × ByteArray)) (v:Value) (w:World) (h:ClAt w 0 v l) (hl:l.length≤100000):
 Calls Tryz.prog 76 #[v] w fun e w'=>∃ v',e= .returned v'∧ClAt w' w.heap.size v' l∧Below w.heap.size w w':=by
 obtain⟨i0,hi,hz0,hz1,hz2⟩:=info_parts (show(Tryz.prog.info? 136).map (fun i=>(i.zero,i.size,i.bytes))=some (some (.agg #[.string ⟨#[]⟩,.string ⟨#[]⟩,.string ⟨#[]⟩]),3,48) by kernel_rfl)
 rcases ownsRow_cases h (by decide) with ⟨rfl,h1,h2⟩ | ⟨g,cap,rfl,-,hg,hm,hc⟩
 · obtain rfl:=List.length_eq_zero_iff.1 h1
   exact(AnyE.slices_Clone_nil layCl 0 0 w).mono fun e w' ⟨he,hw⟩=>⟨_,he,⟨rfl,.inl ⟨rfl,rfl⟩⟩,hw ▸ Below.refl _ _⟩
 · refine(AnyE.slices_Clone layCl i0 (.agg #[.string ⟨#[]⟩,.string ⟨#[]⟩,.string ⟨#[]⟩]) 3 48 hi hz0 hz1 hz2 rfl (by decide) Tryz.sizeOf136 g 0 l.length cap (Idl.clCells l) w (Idl.clCells_length l) hm (by omega) (fun j u hu=>by rw [Nat.zero_add];exact hc j u hu) (Idl.clCells_one l)).mono ?_
   rintro e w' ⟨v',he,hown,-,hb⟩
   exact⟨v',he,hown,hb⟩
def Idl.nmEnc (x:ByteArray × ByteArray):List Value:=[.string x.1,.string x.2]
def Idl.clEnc (x:ByteArray × ByteArray × ByteArray):List Value:=[.string x.1,.string x.2.1,.string x.2.2]
theorem flat_get {α β:Type} {f:α→List β} {k:Nat} (hf:∀ x,(f x).length=k):∀(l:List α) (j i:Nat) (x:α),l[j]? =some x→i<k→(l.flatMap f)[j*k+i]? =(f x)[i]?
 | [],j,i,x,h,_=>by simp at h
 | y::l,0,i,x,h,hi=>by
   simp only [List.getElem?_cons_zero,Option.some.injEq] at h
   subst h
   rw [List.flatMap_cons,Nat.zero_mul,Nat.zero_add,List.getElem?_append_left (by rw [hf];exact hi)]
 | y::l,j+1,i,x,h,hi=>by
   rw [List.flatMap_cons,List.getElem?_append_right (by rw [hf,Nat.succ_mul];omega),hf,show(j+1)*k+i-k=j*k+i by rw [Nat.succ_mul];omega]
   exact flat_get hf l j i x (by simpa using h) hi
theorem idx_find {α:Type} [Inhabited α] (p:α→Bool) (l:List α):(l.find? p=none∧Lib.idxBy (fun _ y=>p y) l default= -1)∨∃ k x,k<l.length∧l[k]? =some x∧l.find? p=some x∧Lib.idxBy (fun _ y=>p y) l default=(k:Int):=by
 suffices h:∀(l:List α) (i:Nat),(l.find? p=none∧Lib.idxByFrom (fun _ y=>p y) default l i= -1)∨∃ k x,k<l.length∧l[k]? =some x∧l.find? p=some x∧Lib.idxByFrom (fun _ y=>p y) default l i=((i+k:Nat):Int) by
  rcases h l 0 with h | ⟨k,x,h1,h2,h3,h4⟩
  · exact .inl h
  · exact .inr ⟨k,x,h1,h2,h3,by rw [Nat.zero_add] at h4;exact h4⟩
 intro l
 induction l with
 | nil=>exact fun i=> .inl ⟨rfl,rfl⟩
 | cons y l ih=>
   intro i
   cases hy:p y with
   | true=>exact .inr ⟨0,y,by simp,rfl,by simp [hy],by simp [Lib.idxByFrom,hy]⟩
   | false=>
     rcases ih (i+1) with ⟨h1,h2⟩ | ⟨k,x,h1,h2,h3,h4⟩
     · exact .inl ⟨by simp [hy,h1],by simp [Lib.idxByFrom,hy,h2]⟩
     · exact .inr ⟨k+1,x,by simp;omega,by simpa using h2,by simp [hy,h3],by simp [Lib.idxByFrom,hy,h4];omega⟩
def renINm:Go.Shelf.Ren:=⟨fun | 6=>125 | 8=>103 | n=>n,fun | 0=>0 | 3=>3 | 4=>4 | 22=>29 | 23=>133 | 25=>154 | n=>n,fun n=>n⟩
theorem layINm:SlLaysH0.n8 Tryz.prog renINm:={
 mixed:=by kernel_rfl
 f6:=⟨Tryz.f125.name,by decide,Tryz.func125.trans (congrArg some (by kernel_rfl))⟩
 f8:=⟨Tryz.f103.name,by decide,Tryz.func103.trans (congrArg some (by kernel_rfl))⟩
 t0:=Tryz.underlying0
 a0:=Tryz.isAgg0
 z0:=Tryz.sizeOf0
 v0:=Tryz.zeroValue0
 t3:=Tryz.underlying3
 a3:=Tryz.isAgg3
 z3:=Tryz.sizeOf3
 v3:=Tryz.zeroValue3
 t4:=Tryz.underlying4
 a4:=Tryz.isAgg4
 z4:=Tryz.sizeOf4
 v4:=Tryz.zeroValue4
 t22:=Tryz.underlying29
 a22:=Tryz.isAgg29
 z22:=Tryz.sizeOf29
 v22:=Tryz.zeroValue29
 t25:=Tryz.underlying154
 a25:=Tryz.isAgg154
 z25:=Tryz.sizeOf154
 v25:=Tryz.zeroValue154 }
theorem indexNm_nil (fv:Value) (w:World):Calls Tryz.prog 125 #[.slice none 0 0,fv] w fun e w'=>e= .returned (.int .i64 (-1))∧w'=w:=by
 go_enter Tryz.func125,Tryz.ntmps125
 go_wp2
 go_loopg [5,8] 0 (fun _ _ s8 wr=>s8= .int .i64 0∧wr=w)
 case atStart=>exact⟨rfl,rfl⟩
 case round=>
  obtain⟨rfl,rfl⟩:=hrel
  go_wp2
  go_ret
  exact⟨rfl,rfl⟩
theorem indexNm_any (l:List (ByteArray × ByteArray)) (v:Value) (p:ByteArray × ByteArray→Bool) (gf:Nat) (lb:Array Value) (eg:∀ args w,(callFunc gf args).run Tryz.prog w= .ok (.enter gf args) w) (w:World) (h:NmAt w 0 v l)
 (hp:PredBelow Tryz.prog gf lb (fun x=> .agg (Idl.nmEnc x).toArray) p w):
 Calls Tryz.prog 125 #[v,.func (.func gf) #[] lb] w fun e w'=>e= .returned (.int .i64 (Lib.idxBy (fun _ y=>p y) l default))∧Below w.heap.size w w':=by
 rcases ownsRow_cases h (by decide) with ⟨rfl,h1,h2⟩ | ⟨g,cap,rfl,-,hg,hm,hc⟩
 · obtain rfl:=List.length_eq_zero_iff.1 h1
   exact(indexNm_nil _ w).mono fun e w' ⟨he,hw⟩=>⟨he,hw ▸ Below.refl _ _⟩
 · have hcon:=AnyQ.slices_IndexFunc (L:={ layINm with }) 2 Tryz.isAgg133 Tryz.sizeOf133 Idl.nmEnc (fun _=>rfl) p gf lb eg g 0 l.length cap l w hp (Nat.le_refl _) (by unfold maxLen at hm;omega) hg
    (fun j hj i v hi=>by
     have hx:l[j]? =some l[j]! :=by rw [List.getElem!_eq_getElem?_getD];simp [hj]
     have hlt:i<2:=by
      have:=(List.getElem?_eq_some_iff.1 hi).1
      exact this
     rw [Nat.zero_add]
     exact hc _ _ ((flat_get (f:=Idl.nmEnc) (k:=2) (fun _=>rfl) l j i _ hx hlt).trans hi))
   rw [List.take_length] at hcon
   exact hcon
theorem containsNm_any (l:List (ByteArray × ByteArray)) (v:Value) (p:ByteArray × ByteArray→Bool) (gf:Nat) (lb:Array Value) (eg:∀ args w,(callFunc gf args).run Tryz.prog w= .ok (.enter gf args) w) (w:World) (h:NmAt w 0 v l)
 (hp:PredBelow Tryz.prog gf lb (fun x=> .agg (Idl.nmEnc x).toArray) p w):
 Calls Tryz.prog 103 #[v,.func (.func gf) #[] lb] w fun e w'=>e= .returned (.bool (decide (0≤Lib.idxBy (fun _ y=>p y) l default)))∧Below w.heap.size w w':=by
 have hI:=indexNm_any l v p gf lb eg w h hp
 generalize Lib.idxBy (fun _ y=>p y) l default=r at*
 clear hp h eg
 go_enter Tryz.func103,Tryz.ntmps103
 go_wp2_with fail
 refine hI.mono ?_
 rintro e w1 ⟨rfl,hb1⟩
 go_wp2
 go_ret
 exact⟨rfl,hb1⟩
theorem findNm_any (l:List (ByteArray × ByteArray)) (v:Value) (p:ByteArray × ByteArray→Bool) (gf:Nat) (lb:Array Value) (eg:∀ args w,(callFunc gf args).run Tryz.prog w= .ok (.enter gf args) w) (w:World) (h:NmAt w 0 v l)
 (hp:PredBelow Tryz.prog gf lb (fun x=> .agg (Idl.nmEnc x).toArray) p (w.alloc (.cells #[.string ⟨#[]⟩,.string ⟨#[]⟩] 133))):
 Calls Tryz.prog 218 #[v,.func (.func gf) #[] lb] w fun e w'=>
  ((l.find? p=none∧e= .returned (.tuple #[.agg #[.string ⟨#[]⟩,.string ⟨#[]⟩],.bool false]))∨∃ x,l.find? p=some x∧e= .returned (.tuple #[.agg #[.string x.1,.string x.2],.bool true]))∧Below w.heap.size w w':=by
 have hb0:Below w.heap.size w (w.alloc (.cells #[.string ⟨#[]⟩,.string ⟨#[]⟩] 133)):=(Below.refl _ w).alloc (Nat.le_refl _) _
 have hr0:=Row.new w 133 #[.string ⟨#[]⟩,.string ⟨#[]⟩]
 have h0:NmAt (w.alloc (.cells #[.string ⟨#[]⟩,.string ⟨#[]⟩] 133)) 0 v l:=owns_below h hb0
 have hI:=indexNm_any l v p gf lb eg _ h0 hp
 have hcs:=ownsRow_cases h (by decide)
 have hfi:=idx_find p l
 have HI:=Lib.hid hI
 have Hcs:=Lib.hid hcs
 have Hfi:=Lib.hid hfi
 clear hI hcs hfi hp h h0 eg
 go_enter Tryz.func218,Tryz.ntmps218
 go_wp2_with fail
 refine HI.out.mono ?_
 rintro e w1 ⟨rfl,hb1⟩
 have Hr:=Lib.hid (hr0.below hb1 hr0.lt)
 have Hb:=Lib.hid (below_seq hb0 hb1)
 have hbw:=hb0.trans (hb1.mono hb0.size)
 have Hbw:=Lib.hid hbw
 clear hb1 hb0 hr0 HI hbw
 rcases Hfi.out with ⟨hf,hix⟩ | ⟨k,x,hk,hx,hf,hix⟩
 · rw [hix]
   have c0:=Hr.out.cell 0
   have c1:=Hr.out.cell 1
   skip
   have f0:=Hr.out.frozen 0
   have f1:=Hr.out.frozen 1
   skip
   go_wp2
   refine bodyPost_ret (results_ct _ _ (g:=w.heap.size) (t:=133) (cs:=#[.string ⟨#[]⟩,.string ⟨#[]⟩]) rfl rfl ((Hr.out.store 0 _).store 1 _) Tryz.underlying133 rfl (by kernel_rfl)) rfl ⟨.inl ⟨hf,rfl⟩,?_⟩
   exact(Hb.out.setCell (p:=⟨w.heap.size,0,none⟩) (Nat.le_refl _) _).setCell (p:=⟨w.heap.size,1,none⟩) (Nat.le_refl _) _
 · rw [hix]
   rcases Hcs.out with ⟨-,h1,-⟩ | ⟨g,cap,rfl,-,hg,hm,hc⟩
   · omega
   · have c0:=Hr.out.cell 0
     have c1:=Hr.out.cell 1
     skip
     have f0:=Hr.out.frozen 0
     have f1:=Hr.out.frozen 1
     skip
     have hlt:(k:Int)<(l.length:Int):=by omega
     have hx0:∀ i u,i<2→(Idl.nmEnc x)[i]? =some u→w1.cell? ⟨g,k*2+i,none⟩=some u:=fun i u hi hu=>by
      rw [Hb.out.cell (p:=⟨g,k*2+i,none⟩) hg]
      exact hc _ _ ((flat_get (f:=Idl.nmEnc) (k:=2) (fun _=>rfl) l k i x hx hi).trans hu)
     have x0:w1.cell? ⟨g,k*2,none⟩=some (.string x.1):=hx0 0 _ (by decide) rfl
     have x1:w1.cell? ⟨g,k*2+1,none⟩=some (.string x.2):=hx0 1 _ (by decide) rfl
     skip
     clear hx0 hc
     go_wp2
     refine bodyPost_ret (results_ct _ _ (g:=w.heap.size) (t:=133) (cs:=#[.string x.1,.string x.2]) rfl rfl ((Hr.out.store 0 _).store 1 _) Tryz.underlying133 rfl (by kernel_rfl)) rfl ⟨.inr ⟨x,hf,rfl⟩,?_⟩
     exact(Hb.out.setCell (p:=⟨w.heap.size,0,none⟩) (Nat.le_refl _) _).setCell (p:=⟨w.heap.size,1,none⟩) (Nat.le_refl _) _
def renICl:Go.Shelf.Ren:=⟨fun | 6=>126 | 8=>104 | n=>n,fun | 0=>0 | 3=>3 | 4=>4 | 22=>30 | 23=>136 | 25=>155 | n=>n,fun n=>n⟩
theorem layICl:SlLaysH0.n8 Tryz.prog renICl:={
 mixed:=by kernel_rfl
 f6:=⟨Tryz.f126.name,by decide,Tryz.func126.trans (congrArg some (by kernel_rfl))⟩
 f8:=⟨Tryz.f104.name,by decide,Tryz.func104.trans (congrArg some (by kernel_rfl))⟩
 t0:=Tryz.underlying0
 a0:=Tryz.isAgg0
 z0:=Tryz.sizeOf0
 v0:=Tryz.zeroValue0
 t3:=Tryz.underlying3
 a3:=Tryz.isAgg3
 z3:=Tryz.sizeOf3
 v3:=Tryz.zeroValue3
 t4:=Tryz.underlying4
 a4:=Tryz.isAgg4
 z4:=Tryz.sizeOf4
 v4:=Tryz.zeroValue4
 t22:=Tryz.underlying30
 a22:=Tryz.isAgg30
 z22:=Tryz.sizeOf30
 v22:=Tryz.zeroValue30
 t25:=Tryz.underlying155
 a25:=Tryz.isAgg155
 z25:=Tryz.sizeOf155
 v25:=Tryz.zeroValue155 }
theorem indexCl_nil (fv:Value) (w:World):Calls Tryz.prog 126 #[.slice none 0 0,fv] w fun e w'=>e= .returned (.int .i64 (-1))∧w'=w:=by
 go_enter Tryz.func126,Tryz.ntmps126
 go_wp2
 go_loopg [5,8] 0 (fun _ _ s8 wr=>s8= .int .i64 0∧wr=w)
 case atStart=>exact⟨rfl,rfl⟩
 case round=>
  obtain⟨rfl,rfl⟩:=hrel
  go_wp2
  go_ret
  exact⟨rfl,rfl⟩
theorem indexCl_any (l:List (ByteArray × ByteArray × ByteArray)) (v:Value) (p:ByteArray × ByteArray × ByteArray→Bool) (gf:Nat) (lb:Array Value) (eg:∀ args w,(callFunc gf args).run Tryz.prog w= .ok (.enter gf args) w) (w:World) (h:ClAt w 0 v l)
 (hp:PredBelow Tryz.prog gf lb (fun x=> .agg (Idl.clEnc x).toArray) p w):
 Calls Tryz.prog 126 #[v,.func (.func gf) #[] lb] w fun e w'=>e= .returned (.int .i64 (Lib.idxBy (fun _ y=>p y) l default))∧Below w.heap.size w w':=by
 rcases ownsRow_cases h (by decide) with ⟨rfl,h1,h2⟩ | ⟨g,cap,rfl,-,hg,hm,hc⟩
 · obtain rfl:=List.length_eq_zero_iff.1 h1
   exact(indexCl_nil _ w).mono fun e w' ⟨he,hw⟩=>⟨he,hw ▸ Below.refl _ _⟩
 · have hcon:=AnyQ.slices_IndexFunc (L:={ layICl with }) 3 Tryz.isAgg136 Tryz.sizeOf136 Idl.clEnc (fun _=>rfl) p gf lb eg g 0 l.length cap l w hp (Nat.le_refl _) (by unfold maxLen at hm;omega) hg
    (fun j hj i v hi=>by
     have hx:l[j]? =some l[j]! :=by rw [List.getElem!_eq_getElem?_getD];simp [hj]
     have hlt:i<3:=by
      have:=(List.getElem?_eq_some_iff.1 hi).1
      exact this
     rw [Nat.zero_add]
     exact hc _ _ ((flat_get (f:=Idl.clEnc) (k:=3) (fun _=>rfl) l j i _ hx hlt).trans hi))
   rw [List.take_length] at hcon
   exact hcon
theorem containsCl_any (l:List (ByteArray × ByteArray × ByteArray)) (v:Value) (p:ByteArray × ByteArray × ByteArray→Bool) (gf:Nat) (lb:Array Value) (eg:∀ args w,(callFunc gf args).run Tryz.prog w= .ok (.enter gf args) w) (w:World) (h:ClAt w 0 v l)
 (hp:PredBelow Tryz.prog gf lb (fun x=> .agg (Idl.clEnc x).toArray) p w):
 Calls Tryz.prog 104 #[v,.func (.func gf) #[] lb] w fun e w'=>e= .returned (.bool (decide (0≤Lib.idxBy (fun _ y=>p y) l default)))∧Below w.heap.size w w':=by
 have hI:=indexCl_any l v p gf lb eg w h hp
 generalize Lib.idxBy (fun _ y=>p y) l default=r at*
 clear hp h eg
 go_enter Tryz.func104,Tryz.ntmps104
 go_wp2_with fail
 refine hI.mono ?_
 rintro e w1 ⟨rfl,hb1⟩
 go_wp2
 go_ret
 exact⟨rfl,hb1⟩
theorem findCl_any (l:List (ByteArray × ByteArray × ByteArray)) (v:Value) (p:ByteArray × ByteArray × ByteArray→Bool) (gf:Nat) (lb:Array Value) (eg:∀ args w,(callFunc gf args).run Tryz.prog w= .ok (.enter gf args) w) (w:World) (h:ClAt w 0 v l)
 (hp:PredBelow Tryz.prog gf lb (fun x=> .agg (Idl.clEnc x).toArray) p (w.alloc (.cells #[.string ⟨#[]⟩,.string ⟨#[]⟩,.string ⟨#[]⟩] 136))):
 Calls Tryz.prog 208 #[v,.func (.func gf) #[] lb] w fun e w'=>
  ((l.find? p=none∧e= .returned (.tuple #[.agg #[.string ⟨#[]⟩,.string ⟨#[]⟩,.string ⟨#[]⟩],.bool false]))∨∃ x,l.find? p=some x∧e= .returned (.tuple #[.agg #[.string x.1,.string x.2.1,.string x.2.2],.bool true]))∧Below w.heap.size w w':=by
 have hb0:Below w.heap.size w (w.alloc (.cells #[.string ⟨#[]⟩,.string ⟨#[]⟩,.string ⟨#[]⟩] 136)):=(Below.refl _ w).alloc (Nat.le_refl _) _
 have hr0:=Row.new w 136 #[.string ⟨#[]⟩,.string ⟨#[]⟩,.string ⟨#[]⟩]
 have h0:ClAt (w.alloc (.cells #[.string ⟨#[]⟩,.string ⟨#[]⟩,.string ⟨#[]⟩] 136)) 0 v l:=owns_below h hb0
 have hI:=indexCl_any l v p gf lb eg _ h0 hp
 have hcs:=ownsRow_cases h (by decide)
 have hfi:=idx_find p l
 have HI:=Lib.hid hI
 have Hcs:=Lib.hid hcs
 have Hfi:=Lib.hid hfi
 clear hI hcs hfi hp h h0 eg
 go_enter Tryz.func208,Tryz.ntmps208
 go_wp2_with fail
 refine HI.out.mono ?_
 rintro e w1 ⟨rfl,hb1⟩
 have Hr:=Lib.hid (hr0.below hb1 hr0.lt)
 have Hb:=Lib.hid (below_seq hb0 hb1)
 have hbw:=hb0.trans (hb1.mono hb0.size)
 have Hbw:=Lib.hid hbw
 clear hb1 hb0 hr0 HI hbw
 rcases Hfi.out with ⟨hf,hix⟩ | ⟨k,x,hk,hx,hf,hix⟩
 · rw [hix]
   have c0:=Hr.out.cell 0
   have c1:=Hr.out.cell 1
   have c2:=Hr.out.cell 2
   have f0:=Hr.out.frozen 0
   have f1:=Hr.out.frozen 1
   have f2:=Hr.out.frozen 2
   go_wp2
   refine bodyPost_ret (results_ct _ _ (g:=w.heap.size) (t:=136) (cs:=#[.string ⟨#[]⟩,.string ⟨#[]⟩,.string ⟨#[]⟩]) rfl rfl (((Hr.out.store 0 _).store 1 _).store 2 _) Tryz.underlying136 rfl (by kernel_rfl)) rfl ⟨.inl ⟨hf,rfl⟩,?_⟩
   exact((Hb.out.setCell (p:=⟨w.heap.size,0,none⟩) (Nat.le_refl _) _).setCell (p:=⟨w.heap.size,1,none⟩) (Nat.le_refl _) _).setCell (p:=⟨w.heap.size,2,none⟩) (Nat.le_refl _) _
 · rw [hix]
   rcases Hcs.out with ⟨-,h1,-⟩ | ⟨g,cap,rfl,-,hg,hm,hc⟩
   · omega
   · have c0:=Hr.out.cell 0
     have c1:=Hr.out.cell 1
     have c2:=Hr.out.cell 2
     have f0:=Hr.out.frozen 0
     have f1:=Hr.out.frozen 1
     have f2:=Hr.out.frozen 2
     have hlt:(k:Int)<(l.length:Int):=by omega
     have hx0:∀ i u,i<3→(Idl.clEnc x)[i]? =some u→w1.cell? ⟨g,k*3+i,none⟩=some u:=fun i u hi hu=>by
      rw [Hb.out.cell (p:=⟨g,k*3+i,none⟩) hg]
      exact hc _ _ ((flat_get (f:=Idl.clEnc) (k:=3) (fun _=>rfl) l k i x hx hi).trans hu)
     have x0:w1.cell? ⟨g,k*3,none⟩=some (.string x.1):=hx0 0 _ (by decide) rfl
     have x1:w1.cell? ⟨g,k*3+1,none⟩=some (.string x.2.1):=hx0 1 _ (by decide) rfl
     have x2:w1.cell? ⟨g,k*3+2,none⟩=some (.string x.2.2):=hx0 2 _ (by decide) rfl
     clear hx0 hc
     go_wp2
     refine bodyPost_ret (results_ct _ _ (g:=w.heap.size) (t:=136) (cs:=#[.string x.1,.string x.2.1,.string x.2.2]) rfl rfl (((Hr.out.store 0 _).store 1 _).store 2 _) Tryz.underlying136 rfl (by kernel_rfl)) rfl ⟨.inr ⟨x,hf,rfl⟩,?_⟩
     exact((Hb.out.setCell (p:=⟨w.heap.size,0,none⟩) (Nat.le_refl _) _).setCell (p:=⟨w.heap.size,1,none⟩) (Nat.le_refl _) _).setCell (p:=⟨w.heap.size,2,none⟩) (Nat.le_refl _) _
theorem enters_oddName:∀ args w,(callFunc 100 args).run Tryz.prog w= .ok (.enter 100 args) w:=enters_of Tryz.func100 (by kernel_rfl) rfl
theorem enters_oddCell:∀ args w,(callFunc 101 args).run Tryz.prog w= .ok (.enter 101 args) w:=enters_of Tryz.func101 (by kernel_rfl) rfl
theorem enters_label:∀ args w,(callFunc 219 args).run Tryz.prog w= .ok (.enter 219 args) w:=enters_of Tryz.func219 (by kernel_rfl) rfl
theorem enters_seal:∀ args w,(callFunc 209 args).run Tryz.prog w= .ok (.enter 209 args) w:=enters_of Tryz.func209 (by kernel_rfl) rfl
theorem enters_open:∀ args w,(callFunc 316 args).run Tryz.prog w= .ok (.enter 316 args) w:=enters_of Tryz.func316 (by kernel_rfl) rfl
def Idl.oddName (x:ByteArray × ByteArray):Bool:=decide (100<x.1.size) || decide (x.2.size≠16)
def Idl.oddCell (x:ByteArray × ByteArray × ByteArray):Bool:=decide (x.1.size≠16) || decide (x.2.1.size≠24) || decide (x.2.2.size≠40)
theorem oddName_pred (w:World):PredBelow Tryz.prog 100 #[] (fun x=> .agg (Idl.nmEnc x).toArray) Idl.oddName w:=fun W x hb=>by
 show Calls Tryz.prog 100 #[.agg #[.string x.1,.string x.2]] W _
 have hf:Below w.heap.size w (W.alloc (.cells #[.string x.1,.string x.2] 133)):=hb.alloc hb.size _
 unfold Idl.oddName
 by_cases h1:100<x.1.size
 · have i1:(100:Int)<(x.1.size:Int):=by omega
   rw [decide_eq_true h1,Bool.true_or]
   go_enter Tryz.func100,Tryz.ntmps100
   go_wp2
   go_ret
   exact⟨rfl,hf⟩
 · have i1:¬ (100:Int)<(x.1.size:Int):=by omega
   rw [decide_eq_false h1,Bool.false_or]
   by_cases h2:x.2.size=16
   · have i2:(x.2.size:Int)=16:=by omega
     rw [decide_eq_false (fun h=>h h2)]
     clear h1 h2
     go_enter Tryz.func100,Tryz.ntmps100
     go_wp2
     go_ret
     exact⟨rfl,hf⟩
   · have i2:((x.2.size:Int) != 16)=true:=by rw [bne_iff_ne];omega
     rw [decide_eq_true h2]
     clear h1 h2
     go_enter Tryz.func100,Tryz.ntmps100
     go_wp2
     go_ret
     exact⟨rfl,hf⟩
theorem oddCell_pred (w:World):PredBelow Tryz.prog 101 #[] (fun x=> .agg (Idl.clEnc x).toArray) Idl.oddCell w:=fun W x hb=>by
 show Calls Tryz.prog 101 #[.agg #[.string x.1,.string x.2.1,.string x.2.2]] W _
 have hf:Below w.heap.size w (W.alloc (.cells #[.string x.1,.string x.2.1,.string x.2.2] 136)):=hb.alloc hb.size _
 unfold Idl.oddCell
 by_cases h1:x.1.size=16
 · have i1:(x.1.size:Int)=16:=by omega
   rw [decide_eq_false (fun h=>h h1),Bool.false_or]
   by_cases h2:x.2.1.size=24
   · have i2:(x.2.1.size:Int)=24:=by omega
     rw [decide_eq_false (fun h=>h h2),Bool.false_or]
     by_cases h3:x.2.2.size=40
     · have i3:(x.2.2.size:Int)=40:=by omega
       rw [decide_eq_false (fun h=>h h3)]
       clear h1 h2 h3
       go_enter Tryz.func101,Tryz.ntmps101
       go_wp2
       go_ret
       exact⟨rfl,hf⟩
     · have i3:((x.2.2.size:Int) != 40)=true:=by rw [bne_iff_ne];omega
       rw [decide_eq_true h3]
       clear h1 h2 h3
       go_enter Tryz.func101,Tryz.ntmps101
       go_wp2
       go_ret
       exact⟨rfl,hf⟩
   · have i2:((x.2.1.size:Int) != 24)=true:=by rw [bne_iff_ne];omega
     rw [decide_eq_true h2,Bool.true_or]
     clear h1 h2
     go_enter Tryz.func101,Tryz.ntmps101
     go_wp2
     go_ret
     exact⟨rfl,hf⟩
 · have i1:((x.1.size:Int) != 16)=true:=by rw [bne_iff_ne];omega
   rw [decide_eq_true h1,Bool.true_or,Bool.true_or]
   clear h1
   go_enter Tryz.func101,Tryz.ntmps101
   go_wp2
   go_ret
   exact⟨rfl,hf⟩
theorem label_pred (q:ByteArray) (B:Nat) (w:World) (hB:B<w.heap.size) (hc:w.cell? ⟨B,0,none⟩=some (.string q)):
 PredBelow Tryz.prog 219 #[.pointer (some ⟨B,0,none⟩)] (fun x=> .agg (Idl.nmEnc x).toArray) (fun x=>decide (x.1=q)) w:=fun W x hb=>by
 have hc':W.cell? ⟨B,0,none⟩=some (.string q):=(hb.cell (p:=⟨B,0,none⟩) hB).trans hc
 have hBW:B<W.heap.size:=Nat.lt_of_lt_of_le hB hb.size
 have hne:B≠W.heap.size:=by omega
 have hf:Below w.heap.size w (W.alloc (.cells #[.string x.1,.string x.2] 133)):=hb.alloc hb.size _
 show Calls Tryz.prog 219 #[.agg #[.string x.1,.string x.2],.pointer (some ⟨B,0,none⟩)] W fun e w'=>e= .returned (.bool (decide (x.1=q)))∧Below w.heap.size w w'
 have hq:=texts_beq x.1 q
 rw [← hq]
 clear hq
 go_enter Tryz.func219,Tryz.ntmps219
 go_wp2
 all_goals (go_ret;exact⟨rfl,hf⟩)
theorem both_texts (a b c d:ByteArray):decide (a=b∧c=d)=((a.toList == b.toList) && (c.toList == d.toList)):=by
 rw [texts_beq,texts_beq]
 by_cases h1:a=b <;> by_cases h2:c=d <;> simp [h1,h2]
theorem seal_pred (l t:ByteArray) (B C:Nat) (w:World) (hB:B<w.heap.size) (hC:C<w.heap.size) (hc:w.cell? ⟨B,0,none⟩=some (.string l)) (hd:w.cell? ⟨C,0,none⟩=some (.string t)):
 PredBelow Tryz.prog 209 #[.pointer (some ⟨B,0,none⟩),.pointer (some ⟨C,0,none⟩)] (fun x=> .agg (Idl.clEnc x).toArray) (fun x=>decide (x.1=l∧x.2.1=t)) w:=fun W x hb=>by
 have hc':W.cell? ⟨B,0,none⟩=some (.string l):=(hb.cell (p:=⟨B,0,none⟩) hB).trans hc
 have hd':W.cell? ⟨C,0,none⟩=some (.string t):=(hb.cell (p:=⟨C,0,none⟩) hC).trans hd
 have hBW:B<W.heap.size:=Nat.lt_of_lt_of_le hB hb.size
 have hne:B≠W.heap.size:=by omega
 have hCW:C<W.heap.size:=Nat.lt_of_lt_of_le hC hb.size
 have hne2:C≠W.heap.size:=by omega
 have hf:Below w.heap.size w (W.alloc (.cells #[.string x.1,.string x.2.1,.string x.2.2] 136)):=hb.alloc hb.size _
 show Calls Tryz.prog 209 #[.agg #[.string x.1,.string x.2.1,.string x.2.2],.pointer (some ⟨B,0,none⟩),.pointer (some ⟨C,0,none⟩)] W fun e w'=>e= .returned (.bool (decide (x.1=l∧x.2.1=t)))∧Below w.heap.size w w'
 rw [both_texts]
 clear hc hd
 cases h1:(x.1.toList == l.toList)
 · rw [Bool.false_and]
   go_enter Tryz.func209,Tryz.ntmps209
   go_wp2
   all_goals (go_ret;exact⟨rfl,hf⟩)
 · rw [Bool.true_and]
   go_enter Tryz.func209,Tryz.ntmps209
   go_wp2
   all_goals (go_ret;exact⟨rfl,hf⟩)
theorem open_pred (l c:ByteArray) (B C:Nat) (w:World) (hB:B<w.heap.size) (hC:C<w.heap.size) (hc:w.cell? ⟨B,0,none⟩=some (.string l)) (hd:w.cell? ⟨C,0,none⟩=some (.string c)):
 PredBelow Tryz.prog 316 #[.pointer (some ⟨B,0,none⟩),.pointer (some ⟨C,0,none⟩)] (fun x=> .agg (Idl.clEnc x).toArray) (fun x=>decide (x.1=l∧x.2.2=c)) w:=fun W x hb=>by
 have hc':W.cell? ⟨B,0,none⟩=some (.string l):=(hb.cell (p:=⟨B,0,none⟩) hB).trans hc
 have hd':W.cell? ⟨C,0,none⟩=some (.string c):=(hb.cell (p:=⟨C,0,none⟩) hC).trans hd
 have hBW:B<W.heap.size:=Nat.lt_of_lt_of_le hB hb.size
 have hne:B≠W.heap.size:=by omega
 have hCW:C<W.heap.size:=Nat.lt_of_lt_of_le hC hb.size
 have hne2:C≠W.heap.size:=by omega
 have hf:Below w.heap.size w (W.alloc (.cells #[.string x.1,.string x.2.1,.string x.2.2] 136)):=hb.alloc hb.size _
 show Calls Tryz.prog 316 #[.agg #[.string x.1,.string x.2.1,.string x.2.2],.pointer (some ⟨B,0,none⟩),.pointer (some ⟨C,0,none⟩)] W fun e w'=>e= .returned (.bool (decide (x.1=l∧x.2.2=c)))∧Below w.heap.size w w'
 rw [both_texts]
 clear hc hd
 cases h1:(x.1.toList == l.toList)
 · rw [Bool.false_and]
   go_enter Tryz.func316,Tryz.ntmps316
   go_wp2
   all_goals (go_ret;exact⟨rfl,hf⟩)
 · rw [Bool.true_and]
   go_enter Tryz.func316,Tryz.ntmps316
   go_wp2
   all_goals (go_ret;exact⟨rfl,hf⟩)
theorem tell_in (a b:ByteArray) (W:World):Calls Tryz.prog 107 #[.agg #[.string a,.string b]] W fun e w'=>e= .returned (.string a)∧Below W.heap.size W w':=by
 have hf:Below W.heap.size W (W.alloc (.cells #[.string a,.string b] 133)):=(Below.refl _ W).alloc (Nat.le_refl _) _
 go_enter Tryz.func107,Tryz.ntmps107
 go_wp2
 go_ret
 exact⟨rfl,hf⟩
theorem tell_out (a b:ByteArray) (W:World):Calls Tryz.prog 129 #[.agg #[.string a,.string b]] W fun e w'=>e= .returned (.string b)∧Below W.heap.size W w':=by
 have hf:Below W.heap.size W (W.alloc (.cells #[.string a,.string b] 133)):=(Below.refl _ W).alloc (Nat.le_refl _) _
 go_enter Tryz.func129,Tryz.ntmps129
 go_wp2
 go_ret
 exact⟨rfl,hf⟩
theorem tell_made (a b c:ByteArray) (W:World):Calls Tryz.prog 110 #[.agg #[.string a,.string b,.string c]] W fun e w'=>e= .returned (.agg #[.string a,.string b])∧Below W.heap.size W w':=by
 obtain⟨p0,q0,hb0,hz0⟩:=box2 W #[.string a,.string b,.string c] #[.string a,.string b] 136 165
 go_enter Tryz.func110,Tryz.ntmps110
 go_wp2
 refine bodyPost_ret (results_cell_row rfl _ _ (W.heap.size+1) 165 #[.string a,.string b] (0,0) _ rfl q0 Tryz.underlying165 rfl (by kernel_rfl)) rfl ⟨rfl,?_⟩
 exact hb0
theorem tell_told (a b c:ByteArray) (W:World):Calls Tryz.prog 130 #[.agg #[.string a,.string b,.string c]] W fun e w'=>e= .returned (.agg #[.string a,.string c])∧Below W.heap.size W w':=by
 obtain⟨p0,q0,hb0,hz0⟩:=box2 W #[.string a,.string b,.string c] #[.string a,.string c] 136 165
 go_enter Tryz.func130,Tryz.ntmps130
 go_wp2
 refine bodyPost_ret (results_cell_row rfl _ _ (W.heap.size+1) 165 #[.string a,.string c] (0,0) _ rfl q0 Tryz.underlying165 rfl (by kernel_rfl)) rfl ⟨rfl,?_⟩
 exact hb0
end Go.Proofs.YtpnbkfboneabaaaGreat
