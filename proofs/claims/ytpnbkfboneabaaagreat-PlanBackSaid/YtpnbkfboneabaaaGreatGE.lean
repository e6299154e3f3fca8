import Derived.Test.YtpnbkfboneabaaaGreatGA
import Derived.Lib.FrozenHead
import Derived.Lib.ConvBytes
import Derived.Shelf.Strings.BuilderK
import Derived.Shelf.Strings.Repeat
set_option maxRecDepth 100000
set_option maxHeartbeats 2000000
namespace Go.Proofs.YtpnbkfboneabaaaGreat
open Go.RowKit
def OwnB (W:World) (base:Nat) (e:TypeId) (v:Value) (l:List Nat):Prop:=
 ∃(g cap:Nat) (cur:Array Value) (fz:Nat × Nat),v= .slice (some ⟨g,0,none⟩) l.length cap∧base≤g∧W.heap[g]? =some (.cells cur e fz)∧(fz=(0,0)∨cur.size≤fz.1)∧l.length≤cap∧cap≤maxLen∧cur.size=cap∧cur.toList.take l.length=l.map U
theorem OwnB.cells {W:World} {base:Nat} {e:TypeId} {g cap:Nat} {l:List Nat} (h:OwnB W base e (.slice (some ⟨g,0,none⟩) l.length cap) l):∀ j u,(l.map U)[j]? =some u→W.cell? ((⟨g,0,none⟩:Addr).add j)=some u:=by
 obtain⟨g',cap',cur,fz,hv,_,hg,_,_,_,_,ht⟩:=h
 obtain⟨rfl,_⟩:g=g'∧cap=cap':=by simpa using hv
 intro j u hu
 rw [Addr.add_mid,Nat.zero_add,cell_of_row W g j cur e fz hg]
 rw [← ht,List.getElem?_take] at hu
 split at hu
 · simpa using hu
 · cases hu
theorem OwnB.keep {W W':World} {base:Nat} {e:TypeId} {v:Value} {l:List Nat} {S:Nat→Prop} (h:OwnB W base e v l) (hk:Keep S W W') (hs:∀ k,base≤k→S k):OwnB W' base e v l:=by
 obtain⟨g,cap,cur,fz,hv,hb,hg,r⟩:=h
 exact⟨g,cap,cur,fz,hv,hb,hk.heap (hs g hb) hg,r⟩
theorem OwnB.block {W:World} {base:Nat} {e:TypeId} {v:Value} {l:List Nat} (h:OwnB W base e v l):∀ k,v.ownBlock=some k→base≤k:=by
 obtain⟨g,cap,cur,fz,rfl,hb,_⟩:=h
 intro k hk
 simp [Value.ownBlock] at hk
 omega
theorem OwnB.room {W:World} {base:Nat} {e:TypeId} {v:Value} {l:List Nat} (h:OwnB W base e v l):base<W.heap.size:=by
 obtain⟨g,cap,cur,fz,rfl,hb,hg,_⟩:=h
 have:=(Array.getElem?_eq_some_iff.1 hg).1
 omega
theorem run_storeCells_atM (P:Program) (g o:Nat) (t:TypeId) (fz:Nat × Nat) (x:Value) (cur:Array Value) (w:World) (hg:w.heap[g]? =some (.cells cur t fz)) (hfz:fz=(0,0)∨cur.size≤fz.1) (hl:o<cur.size) (h1:x.oneCell'=true):
 (storeCells ⟨g,o,none⟩ [x] 0).run P w= .ok () (w.setRow g (cur.toList.take o++[x]++cur.toList.drop (o+1)).toArray):=by
 have hcell:w.cell? ⟨g,o,none⟩=some cur[o]:=by simp [World.cell?,hg,hl]
 have hfro:w.frozen? ⟨g,o,none⟩=false:=by
  obtain⟨lo,hi'⟩:=fz
  simp only [World.frozen?,hg,Bool.and_eq_false_iff,decide_eq_false_iff_not]
  rcases hfz with h | h
  · right
    have:hi'=0:=by simpa using (Prod.mk.inj h).2
    omega
  · left
    simp only at h
    omega
 have hadd:(⟨g,o,none⟩:Addr).add 0=⟨g,o,none⟩:=by rw [Addr.add_mid,Nat.add_zero]
 have hst:(store ((⟨g,o,none⟩:Addr).add 0) x).run P w= .ok () (w.setRow g (cur.setIfInBounds o x)):=by
  rw [hadd,run_store P w _ x _ h1,hcell]
  simp [hfro,setCell_eq_setRow w g o cur t fz x hg]
 simp only [storeCells,Sem.run_bind,hst,Result.andThen_ok]
 show Result.ok () _=_
 congr 2
 apply Array.toList_inj.1
 rw [Array.toList_setIfInBounds]
 have hl':o<cur.toList.length:=by simpa using hl
 rw [List.set_eq_take_append_cons_drop,if_pos hl']
 simp
theorem run_append_one {P:Program} {W:World} {base:Nat} {t ty e:TypeId} {i:TypeInfo} (ht:P.underlying t=some (.slice e)) (hi:P.info? e=some i) (hz:i.zero=some (.int .u8 0)) (hs:i.size=1) (hy:i.bytes=1)
 {v:Value} {l:List Nat} (h:OwnB W base e v l) (hb:base≤W.heap.size) (hl:l.length≤1000000000) {a:Addr} {c:Nat} {x:Nat} (hx:W.cell? a=some (U x)):
 ∃ v' W',(Builtin.append_ #[t,t] ty #[v,.slice (some a) 1 c]).run P W= .ok v' W'∧OwnB W' base e v' (l++[x])∧Keep (fun k=>v.ownBlock≠some k) W W':=by
 have h':=h
 obtain⟨g,cap,cur,fz,rfl,hbg,hg,hfz,hlc,hcm,hcs,htk⟩:=h
 have hll:(l++[x]).length=l.length+1:=by simp
 have hnews:∀ j u,[U x][j]? =some u→W.cell? (a.add j)=some u:=fun j u hu=>by
  have hj:j=0:=by have:=(List.getElem?_eq_some_iff.1 hu).1;simpa using this
  subst hj
  have ha0:a.add 0=a:=by unfold Addr.add;split <;> simp_all
  rw [ha0,hx]
  simpa using hu
 by_cases hroom:l.length+1≤cap
 · have hf:=run_firstCells_some (P:=P) W i.size 1 a 1 c [U x] (by rw [hs];rfl) hnews
   have hst:=run_storeCells_atM P g (l.length*i.size) e fz (U x) cur W hg hfz (by rw [hs];omega) rfl
   have hr:(Builtin.append_ #[t,t] ty #[.slice (some ⟨g,0,none⟩) l.length cap,.slice (some a) 1 c]).run P W= .ok (.slice (some ⟨g,0,none⟩) (l.length+1) cap) (W.setRow g (cur.toList.take (l.length*i.size)++[U x]++cur.toList.drop (l.length*i.size+1)).toArray):=by
    simp [Builtin.append_,run_underlying ht,sizeOf,typeInfo,hi,Builtin.lenOf,hroom,hf,Addr.add_lit,hst]
   rw [hs,Nat.mul_one] at hr
   refine⟨_,_,hr,⟨g,cap,_,fz,by rw [hll],hbg,setRow_heap W g cur _ e _ hg,?_,by omega,hcm,?_,?_⟩,⟨rfl,rfl,rfl,by simp [World.setRow],fun k hk _=>setRow_other W g k _ (fun e=>hk (by simp [Value.ownBlock,e]))⟩⟩
   · rcases hfz with h | h
     · exact .inl h
     · refine .inr ?_
       simp only [List.size_toArray,List.length_append,List.length_take,List.length_drop,Array.length_toList,List.length_cons,List.length_nil]
       omega
   · simp only [List.size_toArray,List.length_append,List.length_take,List.length_drop,Array.length_toList,List.length_cons,List.length_nil]
     omega
   · rw [htk,hll,List.map_append]
     have:(l.map U++[U x]).length=l.length+1:=by simp
     rw [← this]
     exact List.take_left
 · have hr:=run_append_grow (P:=P) W t ty e i (.int .u8 0) ht hi hz ⟨g,0,none⟩ l.length cap (l.map U) (by rw [hs];simp) h'.cells a 1 c [U x] (by rw [hs];rfl) hnews (by omega) (by omega) (by rw [hy];exact growslice_fits (by omega) (by omega))
   have hge:=grownCap_ge W (l.length+1) cap e
   have hcm2:grownCap W (l.length+1) cap e≤maxLen:=grownCap_le_maxLen W (l.length+1) cap e (by unfold maxLen;omega)
   refine⟨_,_,hr,⟨W.heap.size,_,_,(0,0),by rw [hll],hb,heap_alloc_new W.drew _,.inl rfl,by rw [hll];exact hge,hcm2,?_,?_⟩,⟨rfl,rfl,rfl,by simp,fun k _ hk=>heap_alloc_old W.drew _ k hk⟩⟩
   · have hz1:(Value.int IntKind.u8 0).cells.size=1:=rfl
     simp only [Array.size_append,List.size_toArray,size_zeroCells,hz1,List.length_map,List.length_cons,List.length_nil]
     omega
   · simp only [Array.toList_append,List.append_assoc,hll,List.map_append]
     have:(l.map U++[U x]).length=l.length+1:=by simp
     rw [← List.append_assoc,← this]
     exact List.take_left
theorem wpList_append_one {P:Program} {ops:Array Oper} {rest:List Oper} {o:Oper} {a:Act} {w:World} {Q:Exit→Act→World→Prop} (hgd:o.guard=none) (sl x:Operand) (t:TypeId)
 (ho:o.op= .call { callee:= .builtin .append,args:=#[sl,x],argTypes:=#[t,t] }) (base:Nat) (e:TypeId) (i:TypeInfo) (ht:P.underlying t=some (.slice e)) (hi:P.info? e=some i) (hz:i.zero=some (.int .u8 0)) (hs:i.size=1) (hy:i.bytes=1)
 (v:Value) (l:List Nat) (hv:a.eval sl=v) (hown:OwnB w base e v l) (hb:base≤w.heap.size) (hl:l.length≤1000000000) (ad:Addr) (c y:Nat) (hx:a.eval x= .slice (some ad) 1 c) (hc:w.cell? ad=some (U y))
 (h:∀ v' w',OwnB w' base e v' (l++[y])→Keep (fun k=>v.ownBlock≠some k) w w'→wpList P ops Q rest (a.put o.dst v') w'):wpList P ops Q (o::rest) a w:=by
 refine wpList_plain hgd fun K hK=> ?_
 obtain⟨v',w',hr,h2,h3⟩:=run_append_one (P:=P) (ty:=o.type) ht hi hz hs hy hown hb hl (c:=c) hc
 unfold Oper.wp execOp
 simp only [ho,resolve,invoke,builtin,Sem.run_bind,Sem.run_pure,Result.andThen_ok,List.map_toArray,List.map_cons,List.map_nil,hv,hx,hr]
 exact hK _ _ (h v' w' h2 h3)
theorem OwnB.base {W:World} {b b':Nat} {e:TypeId} {v:Value} {l:List Nat} (h:OwnB W b e v l) (hb:b'≤b):OwnB W b' e v l:=by
 obtain⟨g,cap,cur,fz,hv,h1,r⟩:=h
 exact⟨g,cap,cur,fz,hv,by omega,r⟩
theorem own_bytesWorld (e:TypeId) (s:ByteArray) (hl:s.size≤1000000000) (w:World):OwnB (Lib.bytesWorld w e s) w.heap.size e (.slice (some ⟨w.heap.size,0,none⟩) s.size (grownCap w s.size 0 e)) (bytesOf s):=by
 have hge:=grownCap_ge w s.size 0 e
 have hcm:grownCap w s.size 0 e≤maxLen:=grownCap_le_maxLen w s.size 0 e (by unfold maxLen;omega)
 have hsz:(Lib.bytesCells w e s).size=grownCap w s.size 0 e:=by
  have:s.data.size=s.size:=rfl
  simp only [Lib.bytesCells,Array.size_append,Array.size_map,Array.size_replicate]
  omega
 refine⟨w.heap.size,grownCap w s.size 0 e,Lib.bytesCells w e s,_,by rw [bytesOf_length],Nat.le_refl _,Lib.bytesWorld_at_new w e s,.inr (Nat.le_refl _),by rw [bytesOf_length];exact hge,hcm,hsz,?_⟩
 rw [bytesOf_length]
 have hd':s.data.toList.length=s.size:=by rw [Array.length_toList];rfl
 simp only [Lib.bytesCells,Array.toList_append,Array.toList_map]
 rw [List.take_append_of_le_length (by rw [List.length_map];omega),List.take_of_length_le (by rw [List.length_map];omega)]
 simp [bytesOf]
theorem keep_bytesWorld (S:Nat→Prop) (e:TypeId) (s:ByteArray) (w:World):Keep S w (Lib.bytesWorld w e s):=Keep.below ⟨rfl,rfl,rfl,by rw [Lib.bytesWorld_size];omega,fun k hk=>Lib.bytesWorld_at_old w e s k hk⟩
def Bd.At (b B:Nat) (l:List UInt8) (W:World):Prop:=
 b<B∧∃ p v,(p= .pointer none∨p= .pointer (some ⟨b,0,none⟩))∧Row W b 271 #[p,v]∧W.ownsRowF B 5 1 v l.length (Lib.byteCells l)
theorem ownsF_keep {W W':World} {base:Nat} {e:TypeId} {size n:Nat} {v:Value} {xs:List Value} {S:Nat→Prop} (h:W.ownsRowF base e size v n xs) (hk:Keep S W W') (hs:∀ k,base≤k→S k):W'.ownsRowF base e size v n xs:=by
 refine⟨h.1,?_⟩
 rcases h.2 with hn | ⟨g,cap,cur,fz,rfl,hb,hgg,rest⟩
 · exact .inl hn
 · exact .inr ⟨g,cap,cur,fz,rfl,hb,hk.heap (hs g hb) hgg,rest⟩
theorem Bd.At.keep {b B:Nat} {l:List UInt8} {W W':World} {S:Nat→Prop} (h:Bd.At b B l W) (hk:Keep S W W') (hb:S b) (hs:∀ k,B≤k→S k):Bd.At b B l W':=by
 obtain⟨h0,p,v,hp,hr,ho⟩:=h
 exact⟨h0,p,v,hp,hr.keep hk hb,ownsF_keep ho hk hs⟩
theorem Bd.At.builder {b B:Nat} {l:List UInt8} {W:World} (h:Bd.At b B l W):Lib.IsBuilderF 271 5 b b (Lib.byteCells l) W:=by
 obtain⟨h0,p,v,hp,hr,ho⟩:=h
 have hA:Lib.BuilderAtF 271 5 b b p (Lib.byteCells l) W:=by
  refine⟨Nat.le_refl _,v,hr,?_,?_⟩
  · rw [Lib.byteCells_length]
    refine⟨ho.1,?_⟩
    rcases ho.2 with hn | ⟨g,cap,cur,fz,rfl,hb,hgg,rest⟩
    · exact .inl hn
    · exact .inr ⟨g,cap,cur,fz,rfl,by omega,hgg,rest⟩
  · rcases ho.2 with ⟨rfl,_⟩ | ⟨g,cap,cur,fz,rfl,hb,hgg,rest⟩
    · simp [Value.ownBlock]
    · simp [Value.ownBlock];omega
 rcases hp with rfl | rfl
 · exact .inl hA
 · exact .inr hA
theorem copyCheck_own (b:Nat) (p v:Value) (w:World) (hp:p= .pointer none∨p= .pointer (some ⟨b,0,none⟩)) (hr:Row w b 271 #[p,v]):
 Calls Tryz.prog 227 #[.pointer (some ⟨b,0,none⟩)] w fun e w'=>e= .returned (.tuple #[])∧Row w' b 271 #[.pointer (some ⟨b,0,none⟩),v]∧Keep (fun k=>k≠b) w w':=by
 have hx:(Tryz.prog.info? 271).map (·.size)=some 2:=by kernel_rfl
 obtain⟨j,hj,hjs⟩:=Option.map_eq_some_iff.1 hx
 have c0:w.cell? ⟨b,0,none⟩=some p:=hr.cell 0
 have f0:=hr.frozen 0
 rcases hp with rfl | rfl
 · have hsh:w.shape? b=some (271,2):=by
    have h':w.heap[b]? =some (.cells #[.pointer none,v] 271 (0,0)):=hr
    simp [World.shape?,h']
   have H:=Lib.hid hr
   clear hr
   go_enter Tryz.func227,Tryz.ntmps227
   go_wp2
   rw [Lib.run_to_unsafe w ⟨b,0,none⟩ Tryz.underlying269 Tryz.underlying294 hj (by rw [hjs];decide) hsh (Nat.zero_lt_succ 1)]
   simp only [Result.andThen]
   rw [Oper.upon_value]
   go_wp2
   rw [run_callFunc_extern Tryz.func236 (by kernel_rfl) (by kernel_rfl) (by kernel_rfl) (e:=Extern.AbiNoEscape.same) (by kernel_rfl)]
   rw [Lib.run_noEscape]
   simp only [Result.andThen]
   rw [Oper.upon_value]
   go_wp2
   rw [Lib.run_from_unsafe w ⟨b,0,none⟩ Tryz.underlying294 Tryz.underlying269 hj hsh (by kernel_rfl)]
   simp only [Result.andThen]
   rw [Oper.upon_value]
   go_wp2
   go_end0
   exact⟨rfl,H.out.store 0 _,(Keep.refl _ w).setCell (p:=⟨b,0,none⟩) (fun h=>absurd rfl h) _⟩
 · have H:=Lib.hid hr
   clear hr
   go_enter Tryz.func227,Tryz.ntmps227
   go_wp2
   rw [Lib.run_neq_ptr_same w _ Tryz.underlying269 hj]
   go_wp2
   go_end0
   exact⟨rfl,H.out,Keep.refl _ _⟩
theorem WriteString_own (b B:Nat) (l:List UInt8) (s:ByteArray) (w:World) (h:Bd.At b B l w) (hlen:l.length+s.size≤140737488355328) (hBw:B≤w.heap.size):
 Calls Tryz.prog 213 #[.pointer (some ⟨b,0,none⟩),.string s] w fun e w'=>e= .returned (.tuple #[.int .i64 s.size,.nilIface])∧Bd.At b B (l++s.data.toList) w'∧Keep (fun k=>k<B∧k≠b) w w':=by
 have hx:(Tryz.prog.info? 5).map (fun i=>(i.zero,i.size,i.bytes))=some (some (.int .u8 0),1,1):=by kernel_rfl
 obtain⟨i0,hi,hz⟩:=Option.map_eq_some_iff.1 hx
 obtain⟨hz0,hz1,hz2⟩:i0.zero=some (.int .u8 0)∧i0.size=1∧i0.bytes=1:=by simpa using hz
 obtain⟨hb,p,v,hp,hr,ho⟩:=h
 have HR:=Lib.hid hr
 have HO:=Lib.hid ho
 clear hr ho hx hz
 go_enter Tryz.func213,Tryz.ntmps213
 go_wp2_with fail
 refine(copyCheck_own b p v _ hp HR.out).mono ?_
 rintro e w1 ⟨rfl,hr1,hk1⟩
 have hown:=ownsF_keep HO.out hk1 (fun k hk=>by omega)
 have c0:w1.cell? ⟨b,0,none⟩=some (.pointer (some ⟨b,0,none⟩)):=hr1.cell 0
 have c1:w1.cell? ⟨b,1,none⟩=some v:=hr1.cell 1
 go_wp2_with (at_builtin;refine Lib.wpList_append_own_stringF _ rfl _ _ 42 9 rfl B 5 i0 Tryz.underlying42 Tryz.underlying9 hi hz0 hz1 hz2 _ _ _ rfl hown s rfl ?c3 ?c4 ?c5 ?_)
 case c3=>unfold maxLen;omega
 case c4=>omega
 case c5=>have:=hk1.size;omega
 intro v' w2 hown' hgrow _
 have hk2:=keep_grown hgrow
 have hnb:v.ownBlock≠some b:=fun e=>by have:=(hown.lt b e).1;omega
 have hr2:=hr1.keep hk2 hnb
 have d0:w2.cell? ⟨b,0,none⟩=some (.pointer (some ⟨b,0,none⟩)):=hr2.cell 0
 have d1:w2.cell? ⟨b,1,none⟩=some v:=hr2.cell 1
 have f1:w2.frozen? ⟨b,1,none⟩=false:=hr2.frozen 1
 have hk3:Keep (fun k=>k<B∧k≠b) w w2:=(hk1.mono fun k h _=>h.2).trans (hk2.mono fun k h _ e=>by have:=(hown.lt k e).1;omega)
 have HK:=Lib.hid (hk3.setCell (p:=⟨b,1,none⟩) (fun h=>absurd rfl h.2) v')
 have HO2:=Lib.hid (ownsF_keep hown' ((Keep.refl (fun k=>k≠b) w2).setCell (p:=⟨b,1,none⟩) (fun h=>absurd rfl h) v') (fun k hk=>by omega))
 have HR2:=Lib.hid (hr2.store 1 v')
 obtain⟨ao,n',cap,rfl⟩:∃ ao n' cap,v'= .slice ao n' cap:=by
  rcases hown'.2 with ⟨hv,_⟩ | ⟨g,cap,cur,fz,hv,_⟩
  · exact⟨_,_,_,hv⟩
  · exact⟨_,_,_,hv⟩
 clear hr2 hk3 hk2 hk1 hr1 hown hown' hgrow HO HR
 go_wp2
 go_ret2
 refine⟨rfl,⟨hb,_,_,.inr rfl,HR2.out,?_⟩,HK.out⟩
 have h:=HO2.out
 rw [List.length_append]
 have e:Lib.byteCells (l++s.data.toList)=Lib.byteCells l++Lib.strCells s:=by rw [Lib.strCells_eq];simp [Lib.byteCells]
 rw [e]
 exact h
theorem Len_own (b B:Nat) (l:List UInt8) (w:World) (h:Bd.At b B l w):
 Calls Tryz.prog 212 #[.pointer (some ⟨b,0,none⟩)] w fun e w'=>e= .returned (.int .i64 l.length)∧w'=w:=by
 obtain⟨hb,p,v,hp,hr,hown⟩:=h
 obtain⟨ao,cap,rfl⟩:∃ ao cap,v= .slice ao l.length cap:=by
  rcases hown.2 with ⟨hv,h0⟩ | ⟨g,cap,cur,fz,hv,_⟩
  · exact⟨none,0,by rw [hv,h0]⟩
  · exact⟨_,_,hv⟩
 have c1:w.cell? ⟨b,1,none⟩=some (.slice ao l.length cap):=hr.cell 1
 clear hr hown hp
 go_enter Tryz.func212,Tryz.ntmps212
 go_wp2
 go_ret
 exact⟨rfl,rfl⟩
def bren:Go.Shelf.Ren:=⟨fun | 169=>214 | n=>n,fun | 0=>0 | 3=>3 | 5=>5 | 9=>9 | 37=>42 | 70=>269 | 72=>271 | 127=>256 | n=>n,fun n=>n⟩
theorem blay:Lays.n169 Tryz.prog bren:={
 mixed:=by kernel_rfl
 f169:=Tryz.func214.trans (congrArg some (by kernel_rfl))
 t0:=Tryz.underlying0
 a0:=Tryz.isAgg0
 z0:=Tryz.sizeOf0
 v0:=Tryz.zeroValue0
 t3:=Tryz.underlying3
 a3:=Tryz.isAgg3
 z3:=Tryz.sizeOf3
 v3:=Tryz.zeroValue3
 t9:=Tryz.underlying9
 a9:=Tryz.isAgg9
 z9:=Tryz.sizeOf9
 v9:=Tryz.zeroValue9
 t37:=Tryz.underlying42
 a37:=Tryz.isAgg42
 z37:=Tryz.sizeOf42
 v37:=Tryz.zeroValue42
 t70:=Tryz.underlying269
 a70:=Tryz.isAgg269
 z70:=Tryz.sizeOf269
 v70:=Tryz.zeroValue269
 t72:=Tryz.underlying271
 a72:=Tryz.isAgg271
 z72:=Tryz.sizeOf271
 v72:=Tryz.zeroValue271
 t127:=Tryz.underlying256
 a127:=Tryz.isAgg256
 z127:=Tryz.sizeOf256
 v127:=Tryz.zeroValue256 }
theorem bext:Builder.Extra Tryz.prog bren:={
 toX72:={ sizeBuilder:=by kernel_rfl,liesBuilder:=by kernel_rfl }
 t5:=Tryz.underlying5
 a5:=Tryz.isAgg5
 z5:=Tryz.sizeOf5
 v5:=Tryz.zeroValue5
 infoByte:=by kernel_rfl
 cellsByte:=by kernel_rfl
 sizeByte:=by kernel_rfl
 neB5:=by decide }
theorem String_own (B b:Nat) (l:List UInt8) (w:World) (h:Lib.IsBuilderF 271 5 B b (Lib.byteCells l) w) (hBw:B≤w.heap.size):
 Calls Tryz.prog 214 #[.pointer (some ⟨b,0,none⟩)] w fun e w'=>e= .returned (.string ⟨l.toArray⟩)∧(Lib.IsBuilderF 271 5 B b (Lib.byteCells l) w'∧Below B w w'∧Lib.OthersKept 5 (some b) w w'):=
 Any.Builder_String_any_k blay bext B b l w h hBw
def rren:Go.Shelf.Ren:=⟨fun | 99=>242 | 105=>231 | 165=>243 | 166=>213 | 169=>214 | 170=>212 | 206=>253 | 212=>241 | 240=>227 | 241=>254 | 263=>251 | 264=>252 | 276=>236 | 277=>264 | n=>n,fun | 0=>0 | 3=>3 | 4=>4 | 5=>5 | 9=>9 | 20=>20 | 37=>42 | 46=>89 | 51=>203 | 53=>205 | 70=>269 | 72=>271 | 75=>274 | 76=>275 | 80=>246 | 109=>297 | 127=>256 | 146=>321 | 148=>323 | 164=>294 | n=>n,fun n=>n⟩
theorem rlay:Lays.n105 Tryz.prog rren:={
 mixed:=by kernel_rfl
 f99:=Tryz.func242.trans (congrArg some (by kernel_rfl))
 f105:=Tryz.func231.trans (congrArg some (by kernel_rfl))
 f165:=Tryz.func243.trans (congrArg some (by kernel_rfl))
 f166:=Tryz.func213.trans (congrArg some (by kernel_rfl))
 f169:=Tryz.func214.trans (congrArg some (by kernel_rfl))
 f170:=Tryz.func212.trans (congrArg some (by kernel_rfl))
 f206:=Tryz.func253.trans (congrArg some (by kernel_rfl))
 f212:=Tryz.func241.trans (congrArg some (by kernel_rfl))
 f240:=Tryz.func227.trans (congrArg some (by kernel_rfl))
 f241:=Tryz.func254.trans (congrArg some (by kernel_rfl))
 f263:=Tryz.func251.trans (congrArg some (by kernel_rfl))
 f264:=Tryz.func252.trans (congrArg some (by kernel_rfl))
 f276:=Tryz.func236.trans (congrArg some (by kernel_rfl))
 f277:=Tryz.func264.trans (congrArg some (by kernel_rfl))
 t0:=Tryz.underlying0
 a0:=Tryz.isAgg0
 z0:=Tryz.sizeOf0
 v0:=Tryz.zeroValue0
 t3:=Tryz.underlying3
 a3:=Tryz.isAgg3
 z3:=Tryz.sizeOf3
 v3:=Tryz.zeroValue3
 t4:=Tryz.underlying4
 a4:=Tryz.isAgg4
 z4:=Tryz.sizeOf4
 v4:=Tryz.zeroValue4
 t5:=Tryz.underlying5
 a5:=Tryz.isAgg5
 z5:=Tryz.sizeOf5
 v5:=Tryz.zeroValue5
 t9:=Tryz.underlying9
 a9:=Tryz.isAgg9
 z9:=Tryz.sizeOf9
 v9:=Tryz.zeroValue9
 t20:=Tryz.underlying20
 a20:=Tryz.isAgg20
 z20:=Tryz.sizeOf20
 v20:=Tryz.zeroValue20
 t37:=Tryz.underlying42
 a37:=Tryz.isAgg42
 z37:=Tryz.sizeOf42
 v37:=Tryz.zeroValue42
 t46:=Tryz.underlying89
 a46:=Tryz.isAgg89
 z46:=Tryz.sizeOf89
 v46:=Tryz.zeroValue89
 t51:=Tryz.underlying203
 a51:=Tryz.isAgg203
 z51:=Tryz.sizeOf203
 v51:=Tryz.zeroValue203
 t53:=Tryz.underlying205
 a53:=Tryz.isAgg205
 z53:=Tryz.sizeOf205
 v53:=Tryz.zeroValue205
 t70:=Tryz.underlying269
 a70:=Tryz.isAgg269
 z70:=Tryz.sizeOf269
 v70:=Tryz.zeroValue269
 t72:=Tryz.underlying271
 a72:=Tryz.isAgg271
 z72:=Tryz.sizeOf271
 v72:=Tryz.zeroValue271
 t75:=Tryz.underlying274
 a75:=Tryz.isAgg274
 z75:=Tryz.sizeOf274
 v75:=Tryz.zeroValue274
 t76:=Tryz.underlying275
 a76:=Tryz.isAgg275
 z76:=Tryz.sizeOf275
 v76:=Tryz.zeroValue275
 t109:=Tryz.underlying297
 a109:=Tryz.isAgg297
 z109:=Tryz.sizeOf297
 v109:=Tryz.zeroValue297
 t127:=Tryz.underlying256
 a127:=Tryz.isAgg256
 z127:=Tryz.sizeOf256
 v127:=Tryz.zeroValue256
 t146:=Tryz.underlying321
 a146:=Tryz.isAgg321
 z146:=Tryz.sizeOf321
 v146:=Tryz.zeroValue321
 t148:=Tryz.underlying323
 a148:=Tryz.isAgg323
 z148:=Tryz.sizeOf323
 v148:=Tryz.zeroValue323
 t164:=Tryz.underlying294
 a164:=Tryz.isAgg294
 z164:=Tryz.sizeOf294
 v164:=Tryz.zeroValue294 }
theorem rext:Builder.Extra Tryz.prog rren:={
 toX72:={ sizeBuilder:=by kernel_rfl,liesBuilder:=by kernel_rfl }
 t5:=Tryz.underlying5
 a5:=Tryz.isAgg5
 z5:=Tryz.sizeOf5
 v5:=Tryz.zeroValue5
 infoByte:=by kernel_rfl
 cellsByte:=by kernel_rfl
 sizeByte:=by kernel_rfl
 neB5:=by decide }
theorem Repeat_own (s:ByteArray) (c:Nat) (w:World) (hc:c≤1000000) (hs:s.size≤1000000):
 Calls Tryz.prog 231 #[.string s,.int .i64 (c:Int)] w fun e w'=>e= .returned (.string ⟨(Lib.repeatL s.data.toList c).toArray⟩)∧Below w.heap.size w w':=
 Any.strings_Repeat rlay rext s c w (by omega) (Nat.le_trans (Nat.mul_le_mul hs hc) (by decide))
end Go.Proofs.YtpnbkfboneabaaaGreat
namespace Go.Proofs.YtpnbkfboneabaaaGreat
namespace Ctr
def num (l:List Nat):Nat:=l.foldl (fun a x=>a*256+x) 0
def ctr (v:Nat):List Nat:=(List.range 16).map fun i=>v / 256 ^ (15-i)%256
theorem num_go (l:List Nat):∀ a,l.foldl (fun a x=>a*256+x) a=a*256 ^ l.length+num l:=by
 induction l with
 | nil=>intro a;simp [num]
 | cons x l ih=>
   intro a
   simp only [List.foldl_cons,List.length_cons]
   have e:num (x::l)=x*256 ^ l.length+num l:=by
    show l.foldl _ (0*256+x)=_
    rw [ih,Nat.zero_mul,Nat.zero_add]
   rw [ih,e,Nat.pow_succ,Nat.add_mul,Nat.mul_assoc,Nat.mul_comm 256,Nat.add_assoc]
theorem num_append (l m:List Nat):num (l++m)=num l*256 ^ m.length+num m:=by rw [num,List.foldl_append,num_go];rfl
theorem num_snoc (l:List Nat) (x:Nat):num (l++[x])=num l*256+x:=by rw [num_append];simp [num]
theorem num_cons (x:Nat) (l:List Nat):num (x::l)=x*256 ^ l.length+num l:=by
 have:=num_append [x] l
 simpa [num] using this
theorem num_lt:∀(l:List Nat),(∀ x∈l,x<256)→num l<256 ^ l.length
 | [],_=>by simp [num]
 | x::l,h=>by
   have h1:=num_lt l fun y hy=>h y (by simp [hy])
   have h2:=h x (by simp)
   rw [num_cons,List.length_cons,Nat.pow_succ]
   have h3:x*256 ^ l.length≤255*256 ^ l.length:=Nat.mul_le_mul_right _ (by omega)
   omega
theorem ctr_length (v:Nat):(ctr v).length=16:=by simp [ctr]
theorem ctr_all (v:Nat):Bs.All (ctr v):= .of_mem fun x hx=>by
 obtain⟨i,_,rfl⟩:=List.mem_map.1 hx
 exact Nat.mod_lt _ (by decide)
theorem all_append {l m:List Nat} (hl:Bs.All l) (hm:Bs.All m):Bs.All (l++m):= .of_mem fun x hx=>by
 rcases List.mem_append.1 hx with h | h
 · exact hl.mem x h
 · exact hm.mem x h
theorem num_inj:∀(l m:List Nat),l.length=m.length→(∀ x∈l,x<256)→(∀ x∈m,x<256)→num l=num m→l=m
 | [],[],_,_,_,_=>rfl
 | [],_::_,h,_,_,_=>by simp at h
 | _::_,[],h,_,_,_=>by simp at h
 | x::l,y::m,h,hl,hm,e=>by
   have h':l.length=m.length:=by simpa using h
   have al:=num_lt l fun z hz=>hl z (by simp [hz])
   have am:=num_lt m fun z hz=>hm z (by simp [hz])
   rw [num_cons,num_cons,h'] at e
   rw [h'] at al
   have hp:0<256 ^ m.length:=Nat.pow_pos (by decide)
   have hxy:x=y:=by
    have e1:=congrArg (· / 256 ^ m.length) e
    simp only [Nat.mul_comm x,Nat.mul_comm y,Nat.mul_add_div hp,Nat.div_eq_of_lt al,Nat.div_eq_of_lt am,Nat.add_zero] at e1
    exact e1
   subst hxy
   rw [num_inj l m h' (fun z hz=>hl z (by simp [hz])) (fun z hz=>hm z (by simp [hz])) (by omega)]
theorem num_ctr_all:∀(k v:Nat),num ((List.range k).map fun i=>v / 256 ^ (k-1-i)%256)=v%256 ^ k
 | 0,v=>by simp [num,Nat.mod_one]
 | k+1,v=>by
   rw [List.range_succ,List.map_append,List.map_singleton,num_snoc]
   have h:=num_ctr_all k (v / 256)
   have e:((List.range k).map fun i=>v / 256 ^ (k+1-1-i)%256)=(List.range k).map fun i=>v / 256 / 256 ^ (k-1-i)%256:=by
    refine List.map_congr_left fun i hi=> ?_
    have hi':i<k:=by simpa using hi
    rw [Nat.div_div_eq_div_mul,← Nat.pow_succ',show k+1-1-i=k-1-i+1 by omega]
   rw [e,h,show k+1-1-k=0 by omega,Nat.pow_zero,Nat.div_one,Nat.pow_succ',Nat.mod_mul,Nat.mul_comm,Nat.add_comm]
theorem num_ctr (v:Nat):num (ctr v)=v%256 ^ 16:=num_ctr_all 16 v
theorem ctr_num {c:List Nat} (hc:c.length=16) (ha:Bs.All c) {v:Nat} (h:num c=v%256 ^ 16):c=ctr v:=
 num_inj _ _ (by rw [hc,ctr_length]) ha.mem (ctr_all v).mem (by rw [h,num_ctr])
end Ctr
end Go.Proofs.YtpnbkfboneabaaaGreat
namespace Go.Proofs.YtpnbkfboneabaaaGreat
open Go.RowKit
def Buf (W:World) (g:Nat) (L:List Nat):Prop:=
 ∃(cs:Array Value) (t:TypeId) (fr:Nat × Nat),W.heap[g]? =some (.cells cs t fr)∧L.length≤fr.1∧∀ j,j<L.length→cs[j]? =some (U (L.getD j 0))
namespace Buf
variable {W W':World} {g:Nat} {L:List Nat}
theorem cell (h:Buf W g L) {j:Nat} (hj:j<L.length):W.cell? ⟨g,j,none⟩=some (U (L.getD j 0)):=by
 obtain⟨cs,t,fr,h1,_,h3⟩:=h
 rw [cell_of_row W g j cs t fr h1]
 exact h3 j hj
theorem frozen (h:Buf W g L) {j:Nat} (hj:j<L.length):W.frozen? ⟨g,j,none⟩=false:=by
 obtain⟨cs,t,⟨lo,hi⟩,h1,h2,_⟩:=h
 have h2':L.length≤lo:=h2
 simp only [World.frozen?,h1]
 rw [Bool.and_eq_false_iff]
 left
 exact decide_eq_false (by omega)
theorem drew (h:Buf W g L):Buf W.drew g L:=h
theorem store (h:Buf W g L) {j:Nat} (_:j<L.length) (x:Nat):Buf (W.setCell ⟨g,j,none⟩ (U x)) g (L.set j x):=by
 obtain⟨cs,t,fr,h1,h2,h3⟩:=h
 refine⟨cs.setIfInBounds j (U x),t,fr,?_,by rw [List.length_set];exact h2,fun i hi=> ?_⟩
 · show(W.heap.modify g _)[g]? =_
   rw [Array.getElem?_modify,if_pos rfl,h1]
   rfl
 · rw [List.length_set] at hi
   have hcs:i<cs.size:=(Array.getElem?_eq_some_iff.1 (h3 i hi)).1
   rw [Array.getElem?_setIfInBounds]
   by_cases hij:j=i
   · subst hij
     simp [List.getD_eq_getElem?_getD,hi,hcs]
   · rw [if_neg hij,h3 i hi]
     simp [List.getD_eq_getElem?_getD,hij]
end Buf
theorem conv_buf {P:Program} {src dst e:TypeId} {u:TypeDesc} (hs:P.underlying src=some u) (hd:P.underlying dst=some (.slice e)) (he:P.underlying e=some (.int .u8)) (s:ByteArray) (w:World):
 ∃(W1:World) (cap:Nat),(convert src dst (.string s)).run P w= .ok (.slice (some ⟨w.heap.size,0,none⟩) s.size cap) W1∧Below w.heap.size w W1∧W1.heap.size=w.heap.size+1∧Buf W1 w.heap.size (bytesOf s):=by
 have hcell:∀ j,j<s.size→(Lib.bytesWorld w e s).cell? ⟨w.heap.size,j,none⟩=some (U ((bytesOf s).getD j 0)):=fun j hj=>by rw [bytesOf_getD];exact Lib.bytesWorld_cell w e s j hj
 have hnew:=Lib.bytesWorld_at_new w e s
 refine⟨Lib.bytesWorld w e s,_,Lib.run_convert_string_bytes w src dst e s hs hd he,⟨rfl,rfl,rfl,by rw [Lib.bytesWorld_size];omega,fun k hk=>Lib.bytesWorld_at_old w e s k hk⟩,Lib.bytesWorld_size w e s,?_⟩
 refine⟨_,_,_,hnew,?_,fun j hj=> ?_⟩
 · rw [bytesOf_length]
   show s.size≤(Lib.bytesCells w e s).size
   rcases Nat.eq_zero_or_pos s.size with h0 | h0
   · omega
   · have h:=hcell (s.size-1) (by omega)
     rw [cell_of_row _ _ _ _ _ _ hnew] at h
     have:=(Array.getElem?_eq_some_iff.1 h).1
     omega
 · rw [bytesOf_length] at hj
   have h:=hcell j hj
   rwa [cell_of_row _ _ _ _ _ _ hnew] at h
end Go.Proofs.YtpnbkfboneabaaaGreat
namespace Go.Proofs.YtpnbkfboneabaaaGreat
open Go.RowKit
namespace Ctr
def next (c:List Nat) (n:Nat):List Nat:=ctr (num c+n)
theorem num_take_succ {c:List Nat} {j:Nat} (hj:j<c.length):num (c.take (j+1))=num (c.take j)*256+c.getD j 0:=by
 rw [List.take_succ_eq_append_getElem hj,num_snoc]
 simp [List.getD_eq_getElem?_getD,hj]
end Ctr
def NextAt (g:Nat) (c:List Nat) (N:Nat) (w:World) (vn vi:Value) (wr:World):Prop:=
 ∃(j m:Nat) (done:List Nat),j≤16∧done.length=16-j∧Bs.All done∧m≤1099511627776+256∧(Ctr.num (c.take j)+m)*256 ^ (16-j)+Ctr.num done=Ctr.num c+N∧
  vn= .int .i64 (m:Int)∧vi= .int .i64 ((j:Int)-1)∧Buf wr g (c.take j++done)∧Keep (fun k=>k≠g) w wr
theorem NextAt.last {c done:List Nat} {j m N:Nat} (hc:c.length=16) (hca:Bs.All c) (hj:j≤16) (hd:done.length=16-j) (hda:Bs.All done) (hz:j=0∨m=0)
 (h:(Ctr.num (c.take j)+m)*256 ^ (16-j)+Ctr.num done=Ctr.num c+N):c.take j++done=Ctr.next c N:=by
 have hl:(c.take j++done).length=16:=by rw [List.length_append,List.length_take,hc,hd];omega
 have ha:Bs.All (c.take j++done):=Ctr.all_append (.of_mem fun x hx=>hca.mem x (List.mem_of_mem_take hx)) hda
 refine Ctr.ctr_num hl ha ?_
 rw [Ctr.num_append,hd]
 have hlt:Ctr.num (c.take j++done)<256 ^ 16:=by
  have:=Ctr.num_lt _ ha.mem
  rwa [hl] at this
 rw [Ctr.num_append,hd] at hlt
 rcases hz with rfl | rfl
 · have h0:Ctr.num (c.take 0)=0:=rfl
   rw [h0,Nat.zero_mul,Nat.zero_add] at hlt ⊢
   rw [h0,Nat.zero_add] at h
   rw [← h,Nat.sub_zero,Nat.add_comm,Nat.add_mul_mod_self_right,Nat.mod_eq_of_lt hlt]
 · rw [Nat.add_zero] at h
   rw [h] at hlt ⊢
   rw [Nat.mod_eq_of_lt hlt]
theorem NextAt.step_eq {c done:List Nat} {j m T:Nat} (hc:c.length=16) (hj:j<16) (hd:done.length=16-(j+1))
 (h:(Ctr.num (c.take (j+1))+m)*256 ^ (16-(j+1))+Ctr.num done=T):
 (Ctr.num (c.take j)+(m+c.getD j 0) / 256)*256 ^ (16-j)+Ctr.num ((m+c.getD j 0)%256::done)=T:=by
 rw [Ctr.num_take_succ (by omega)] at h
 rw [Ctr.num_cons,hd,show 16-j=16-(j+1)+1 by omega,Nat.pow_succ]
 generalize 256 ^ (16-(j+1))=P at*
 generalize Ctr.num (c.take j)=A at*
 generalize Ctr.num done=D at*
 generalize c.getD j 0=x at*
 have e:A*256+x+m=(A+(m+x) / 256)*256+(m+x)%256:=by omega
 rw [← h,e]
 generalize A+(m+x) / 256=B
 rw [Nat.add_mul (B*256),Nat.mul_assoc B,Nat.mul_comm 256 P,Nat.add_assoc]
theorem NextAt.step_list {c done:List Nat} {j:Nat} (y:Nat) (hj:j<c.length):(c.take (j+1)++done).set j y=c.take j++(y::done):=by
 have hl:(c.take j).length=j:=by rw [List.length_take];omega
 rw [List.take_succ_eq_append_getElem hj,List.append_assoc,List.set_append_right _ _ (by omega),hl,Nat.sub_self]
 rfl
theorem NextAt.step {g:Nat} {c:List Nat} {N:Nat} {w wr:World} {j m:Nat} {done:List Nat} (hc:c.length=16) (hca:Bs.All c) (hj:j<16) (hd:done.length=16-(j+1)) (hda:Bs.All done) (hm:m≤1099511627776+256)
 (h:(Ctr.num (c.take (j+1))+m)*256 ^ (16-(j+1))+Ctr.num done=Ctr.num c+N) (hb:Buf wr g (c.take (j+1)++done)) (hk:Keep (fun k=>k≠g) w wr):
 NextAt g c N w (.int .i64 (((m+c.getD j 0) / 256:Nat):Int)) (.int .i64 ((j:Int)-1)) (wr.setCell ⟨g,j,none⟩ (U ((m+c.getD j 0)%256))):=by
 have hx:=hca j
 have hb2:=hb.store (j:=j) (by rw [List.length_append,List.length_take,hc,hd];omega) ((m+c.getD j 0)%256)
 rw [NextAt.step_list _ (by omega)] at hb2
 refine⟨j,(m+c.getD j 0) / 256,(m+c.getD j 0)%256::done,by omega,by rw [List.length_cons,hd];omega,?_,by omega,NextAt.step_eq hc hj hd h,rfl,rfl,hb2,hk.setCell (p:=⟨g,j,none⟩) (fun h=>absurd rfl h) _⟩
 exact .of_mem fun x hx=>by
  rcases List.mem_cons.1 hx with rfl | hx
  · omega
  · exact hda.mem x hx
theorem Next_below {g:Nat} {w W1 wr:World} (hg:w.heap.size=g) (hb:Below w.heap.size w W1) (hk:Keep (fun k=>k≠g) W1 wr):Below w.heap.size w wr:=
 ⟨hk.os.trans hb.os,hk.tape.trans hb.tape,hk.output.trans hb.output,Nat.le_trans hb.size hk.size,fun k hl=>(hk.block k (by omega) (Nat.lt_of_lt_of_le hl hb.size)).trans (hb.block k hl)⟩
theorem Next_any (c:ByteArray) (hc:c.size=16) (N:Nat) (hN:N≤1099511627776) (w:World):
 Calls Tryz.prog 260 #[.string c,.int .i64 (N:Int)] w fun e w'=>e= .returned (.tuple #[.string (strOf (Ctr.next (bytesOf c) N)),.int .i64 0])∧Below w.heap.size w w':=by
 obtain⟨W1,cap,hcv,hb1,hz1,hbuf⟩:=conv_buf (P:=Tryz.prog) (src:=9) Tryz.underlying9 Tryz.underlying42 Tryz.underlying5 c w
 rw [hc] at hcv
 have hcl:(bytesOf c).length=16:=by rw [bytesOf_length,hc]
 have hca:=bytesOf_all c
 have t1:((c.size:Int) != 16)=false:=by rw [bne_eq_false_iff_eq];omega
 have hst:NextAt w.heap.size (bytesOf c) N W1 (.int .i64 (N:Int)) (.int .i64 15) W1:=⟨16,N,[],by decide,rfl,(.of_mem fun x hx=>by cases hx),by omega,by rw [List.take_of_length_le (by omega)];simp [Ctr.num],rfl,rfl,by rw [List.take_of_length_le (by omega),List.append_nil];exact hbuf,Keep.refl _ _⟩
 have Hst:=Lib.hid hst
 have Hb1:=Lib.hid hb1
 have Hca:=Lib.hid hca
 obtain⟨C,hC⟩:∃ C,bytesOf c=C:=⟨_,rfl⟩
 rw [hC] at Hst Hca hcl ⊢
 obtain⟨g,hg⟩:∃ g,w.heap.size=g:=⟨_,rfl⟩
 rw [hg] at Hst hcv
 have Hg:=Lib.hid hg
 clear hst hb1 hca hbuf hC hg
 go_enter Tryz.func260,Tryz.ntmps260
 go_wp2_with fail
 go_loopw [1,7] (fun vn vi wr=>NextAt g C N W1 vn vi wr) (fun _ vi _=>(intOf vi+1).toNat)
 case atStart=>exact Hst.out
 case round=>
  clear Hst
  obtain⟨j,m,done,hj,hd,hda,hm,heq,rfl,rfl,hb,hk⟩:=hrel
  by_cases hj0:j=0
  · have HF:=Lib.hid (NextAt.last hcl Hca.out hj hd hda (.inl hj0) heq)
    have HB:=Lib.hid hb
    have HK:=Lib.hid hk
    have hcs:=conv_string (P:=Tryz.prog) (src:=42) (dst:=9) Tryz.underlying42 Tryz.underlying5 Tryz.underlying9 g 0 cap (C.take j++done) wr (fun k hk=>by rw [Nat.zero_add];exact hb.cell hk) 16 (by rw [List.length_append,List.length_take,hcl,hd];omega)
    rw [HF.out] at hcs
    clear hb hk heq hd hda hj
    have hc0:¬ (0:Int)≤(j:Int)-1:=by omega
    go_wp2_with fail
    go_ret2
    exact⟨rfl,Next_below Hg.out Hb1.out HK.out⟩
  · by_cases hm0:m=0
    · have HF:=Lib.hid (NextAt.last hcl Hca.out hj hd hda (.inr hm0) heq)
      have HB:=Lib.hid hb
      have HK:=Lib.hid hk
      have hcs:=conv_string (P:=Tryz.prog) (src:=42) (dst:=9) Tryz.underlying42 Tryz.underlying5 Tryz.underlying9 g 0 cap (C.take j++done) wr (fun k hk=>by rw [Nat.zero_add];exact hb.cell hk) 16 (by rw [List.length_append,List.length_take,hcl,hd];omega)
      rw [HF.out] at hcs
      clear hb hk heq hd hda hj
      have hc0:(0:Int)≤(j:Int)-1:=by omega
      have hc1:¬ (0:Int)<(m:Int):=by omega
      go_wp2_with fail
      go_ret2
      exact⟨rfl,Next_below Hg.out Hb1.out HK.out⟩
    · obtain⟨i,rfl⟩:∃ i,j=i+1:=⟨j-1,by omega⟩
      have hx:=Hca.out i
      have hcell:=hb.cell (j:=i) (by rw [List.length_append,List.length_take,hcl,hd];omega)
      have hget:(C.take (i+1)++done).getD i 0=C.getD i 0:=by
       rw [List.getD_eq_getElem?_getD,List.getD_eq_getElem?_getD,List.getElem?_append_left (by rw [List.length_take];omega),List.getElem?_take_of_lt (by omega)]
      rw [hget] at hcell
      have hfr:=hb.frozen (j:=i) (by rw [List.length_append,List.length_take,hcl,hd];omega)
      have Hnx:=Lib.hid (NextAt.step hcl Hca.out (by omega) hd hda hm heq hb hk)
      clear hb hk heq hd hda hget
      have e0:((i+1:Nat):Int)-1=(i:Int):=by omega
      have hc0:(0:Int)≤(i:Int):=by omega
      have hc1:(0:Int)<(m:Int):=by omega
      have hi16:i<16:=by omega
      generalize C.getD i 0=x at hcell hx Hnx
      rw [e0]
      go_wp2_with fail
      refine⟨?_,by simp [intOf]⟩
      have h:=Hnx.out
      rw [show (((m+x) / 256:Nat):Int)=((m:Int)+x) / 256 by omega,show U ((m+x)%256)= .int .u8 (((m:Int)+x)%256) from congrArg (Value.int .u8) (by omega:(((m+x)%256:Nat):Int)=((m:Int)+x)%256)] at h
      exact h
end Go.Proofs.YtpnbkfboneabaaaGreat
