import Derived.Test.YtpnbkfboneabaaaGreatPT
import Derived.Maps.AppendAt
import Derived.Test.YtpnbkfboneabaaaGreatIB
import Derived.Test.YtpnbkfboneabaaaGreatRG
set_option maxRecDepth 100000
set_option maxHeartbeats 4000000
namespace Go.Proofs.YtpnbkfboneabaaaGreat
open Go.RowKit
theorem append_run {P:Program} {ρ:Operand→Value} {o:Oper} {w w':World} {v u v':Value} (s x:Operand) (t:TypeId) (ho:o.op= .call { callee:= .builtin .append,args:=#[s,x],argTypes:=#[t,t] }) (hs:ρ s=v) (hx:ρ x=u)
 (hrun:(Builtin.append_ #[t,t] o.type #[v,u]).run P w= .ok v' w'):(execOp ρ o).run P w= .ok (.value v') w':=by
 unfold execOp
 simp only [ho,resolve,invoke,builtin,Sem.run_bind,Sem.run_pure,Result.andThen_ok,List.map_toArray,List.map_cons,List.map_nil,hs,hx,hrun]
section
variable {P:Program} {fn:Func} {ty ty':TypeId} (tmps:Array Value) (w:World) {g g':Nat} {t t':TypeId} {cs cs':Array Value} {d d':TypeDesc}
theorem results_cct {p p' k:Tmp} (h:fn.results=#[.cell p ty,.cell p' ty',.tmp k]) (hp:tmps.getD p undef= .pointer (some ⟨g,0,none⟩)) (hg:Row w g t cs)
 (hu:P.underlying ty=some d) (hd:(match d with | .struct _ | .array _ _=>true | _=>false)=true) (hi:(P.info? ty).map (·.size)=some cs.size)
 (hp':tmps.getD p' undef= .pointer (some ⟨g',0,none⟩)) (hg':Row w g' t' cs')
 (hu':P.underlying ty'=some d') (hd':(match d' with | .struct _ | .array _ _=>true | _=>false)=true) (hi':(P.info? ty').map (·.size)=some cs'.size):
 (results fn tmps).run P w= .ok (.tuple #[.agg cs,.agg cs',tmps.getD k undef]) w:=by
 have h1:tmps[p]?.getD undef= .pointer (some ⟨g,0,none⟩):=by simpa using hp
 have h2:tmps[p']?.getD undef= .pointer (some ⟨g',0,none⟩):=by simpa using hp'
 simp [results,h,h1,h2,asAddr,run_loadVar_row w g t ty cs (0,0) d hg hu hd hi,run_loadVar_row w g' t' ty' cs' (0,0) d' hg' hu' hd' hi']
end
theorem owns_obj {W:World} {B n s:Nat} {e:TypeId} {v:Value} {xs:List Value} {i:Nat} {ob:Obj} (h:W.ownsRow B e s v n xs) (hl:W.heap[i]? =some ob) (hne:∀ cs T z,ob≠ .cells cs T z):∀ k,v.ownBlock=some k→k≠i:=by
 rintro k hk rfl
 rcases h.2 with ⟨rfl,_⟩ | ⟨b,cap,cur,rfl,_,hg,_⟩
 · cases hk
 · injection hk with hk
   subst hk
   rw [hl] at hg
   injection hg with hg
   exact hne _ _ _ hg
namespace Pln
theorem AskHeld.grown {W W':World} {g nb:Nat} {o:Orc} {v:Value} {l:List ByteArray} (h:AskHeld W g o) (hg:g<nb) (hv:StrAt W nb v l) (hk:Keep (fun k=>v.ownBlock≠some k) W W'):AskHeld W' g o:=by
 refine h.keep hk (fun e=>by have:=(hv.lt g e).1;omega) fun k T cs z hc hT e=> ?_
 rcases hv.2 with ⟨h1,_⟩ | ⟨b,cap,cur,h1,_,hb,_⟩
 · rw [h1] at e
   cases e
 · rw [h1] at e
   injection e with e
   subst e
   rw [hb] at hc
   injection hc with hc
   injection hc with _ hc
   rcases hT with hT | hT <;> rw [hT] at hc <;> cases hc
structure PutIn (W0:World) (gq ga nb:Nat) (Q:Orc) (r:Array Value) (W:World):Prop where
 k:Keep (fun k=>k<nb∧k≠gq) W0 W
 a:AskHeld W ga Q
 r:Row W gq 49 r
theorem PutIn.below {W0:World} {gq ga nb:Nat} {Q:Orc} {r:Array Value} {W W':World} (h:PutIn W0 gq ga nb Q r W) (hb:Below W.heap.size W W'):PutIn W0 gq ga nb Q r W':=
 ⟨h.k.trans ((Keep.below hb).mono fun _ _ _=>trivial),h.a.below hb,h.r.below hb h.r.lt⟩
theorem PutIn.grown {W0:World} {gq ga nb:Nat} {Q:Orc} {r:Array Value} {W W':World} {v:Value} {l:List ByteArray} (h:PutIn W0 gq ga nb Q r W) (hg:ga<nb) (hq:gq<nb) (hv:StrAt W nb v l) (hk:Keep (fun k=>v.ownBlock≠some k) W W'):PutIn W0 gq ga nb Q r W':=
 ⟨h.k.trans (hk.mono fun k hk _ e=>by have:=(hv.lt k e).1;omega),h.a.grown hg hv hk,h.r.keep hk (fun e=>by have:=(hv.lt gq e).1;omega)⟩
theorem PutIn.store {W0:World} {gq ga nb:Nat} {Q:Orc} {r:Array Value} {W:World} (h:PutIn W0 gq ga nb Q r W) (hne:ga≠gq) (i:Nat) (u:Value):PutIn W0 gq ga nb Q (r.setIfInBounds i u) (W.setCell ⟨gq,i,none⟩ u):=by
 have hk:Keep (fun k=>k≠gq) W (W.setCell ⟨gq,i,none⟩ u):=(Keep.refl _ _).setCell (p:=⟨gq,i,none⟩) (fun h=>absurd rfl h) _
 refine⟨h.k.trans (hk.mono fun k hk _=>hk.2),h.a.keep hk hne fun k T cs z hc hT e=> ?_,h.r.store i u⟩
 subst e
 rw [h.r] at hc
 injection hc with hc
 injection hc with _ hc
 rcases hT with hT | hT <;> rw [hT] at hc <;> cases hc
def PutB (W0:World) (gq ga nb:Nat) (Q:Orc) (lv cv:Value) (L C:List ByteArray) (b:Nat) (x:Nat→Value) (W:World):Prop:=
 PutIn W0 gq ga nb Q #[.int .i64 1,if 3≤b then x 4 else lv,if 4≤b then x 9 else cv] W∧(b=0→StrAt W nb lv L)∧(b≤1→StrAt W nb cv C)∧W0.heap.size≤W.heap.size
theorem PutB.below {W0:World} {gq ga nb:Nat} {Q:Orc} {lv cv:Value} {L C:List ByteArray} {b:Nat} {x y:Nat→Value} {W W':World} (h:PutB W0 gq ga nb Q lv cv L C b x W) (he:∀ s∈[4,9,11,13],y s=x s) (hb:Below W.heap.size W W'):PutB W0 gq ga nb Q lv cv L C b y W':=by
 obtain⟨h1,h2,h3,h4⟩:=h
 refine⟨?_,fun e=>owns_below (h2 e) hb,fun e=>owns_below (h3 e) hb,Nat.le_trans h4 hb.size⟩
 rw [he 4 (by simp),he 9 (by simp)]
 exact h1.below hb
def PutR (W0:World) (gq nb:Nat) (lv cv:Value) (s c:ByteArray) (L C:List ByteArray) (b j:Nat) (v:Value) (W:World):Prop:=match j with
 | 0=>v= .pointer (some ⟨gq,1,none⟩)
 | 1=>v=lv
 | 2=>v= .string s
 | 3=>∃ g,W0.heap.size≤g∧v= .slice (some ⟨g,0,none⟩) 1 1∧(b=0→W.cell? ⟨g,0,none⟩=some (.string s))
 | 4=>1≤b∧(∃ a k,v= .slice a (L.length+1) k)∧StrAt W nb v (L++[s])∧∀ g,cv.ownBlock=some g→v.ownBlock≠some g
 | 5=>v= .pointer (some ⟨gq,2,none⟩)
 | 6=>v=cv
 | 7=>v= .string c
 | 8=>∃ g,W0.heap.size≤g∧v= .slice (some ⟨g,0,none⟩) 1 1∧(b≤1→W.cell? ⟨g,0,none⟩=some (.string c))
 | 9=>2≤b∧(∃ a k,v= .slice a (C.length+1) k)∧StrAt W nb v (C++[c])
 | 10=>v= .pointer (some ⟨gq,1,none⟩)
 | 11=>True
 | 12=>v= .pointer (some ⟨gq,2,none⟩)
 | _=>True
theorem PutR.below {W0:World} {gq nb:Nat} {lv cv:Value} {s c:ByteArray} {L C:List ByteArray} {b:Nat} {W W':World} (hb:Below W.heap.size W W'):∀(j:Nat) {v:Value},PutR W0 gq nb lv cv s c L C b j v W→PutR W0 gq nb lv cv s c L C b j v W'
 | 0,_,h=>h
 | 1,_,h=>h
 | 2,_,h=>h
 | 3,_,h=>by
   obtain⟨g,h1,h2,h3⟩:=h
   exact⟨g,h1,h2,fun e=>cell_below hb (h3 e)⟩
 | 4,_,h=>⟨h.1,h.2.1,owns_below h.2.2.1 hb,h.2.2.2⟩
 | 5,_,h=>h
 | 6,_,h=>h
 | 7,_,h=>h
 | 8,_,h=>by
   obtain⟨g,h1,h2,h3⟩:=h
   exact⟨g,h1,h2,fun e=>cell_below hb (h3 e)⟩
 | 9,_,h=>⟨h.1,h.2.1,owns_below h.2.2 hb⟩
 | 10,_,h=>h
 | 11,_,h=>h
 | 12,_,h=>h
 | _+13,_,h=>h
variable {W0:World} {gq ga nb:Nat} {Q:Orc} {lv cv:Value} {s c:ByteArray} {L C:List ByteArray}
theorem put_turn0 (hg:ga<nb) (hq:gq<nb) (hlv:∀ g,lv.ownBlock=some g→g<W0.heap.size) (hcv:∀ g,cv.ownBlock=some g→g<W0.heap.size) (hap:∀ g,cv.ownBlock=some g→lv.ownBlock≠some g) {x:Nat→Value} {W W':World} {v':Value}
 (hB:PutB W0 gq ga nb Q lv cv L C 0 x W) (hown:W'.ownsRow nb 9 1 v' (L.length+1) (L.map .string++[.string s])) (hgr:W.grownBy W' lv.ownBlock) (hat:v'.ownBlock=lv.ownBlock∨v'.ownBlock=some W.heap.size):
 PutB W0 gq ga nb Q lv cv L C 1 (fun j=>if j=4 then v' else x j) W'∧PutR W0 gq nb lv cv s c L C 1 4 v' W'∧∀ j,j≠4→PutR W0 gq nb lv cv s c L C 0 j (x j) W→PutR W0 gq nb lv cv s c L C 1 j (x j) W':=by
 obtain⟨h1,h2,h3,h4⟩:=hB
 have hk:=keep_grown hgr
 refine⟨⟨h1.grown hg hq (h2 rfl) hk,fun e=>absurd e (by decide),fun _=>owns_keep (h3 (by decide)) hk (fun k hk2=>hap k hk2),Nat.le_trans h4 hgr.size⟩,⟨Nat.le_refl _,slice_of hown,str_snoc hown rfl,fun g e=> ?_⟩,?_⟩
 · rcases hat with h | h
   · rw [h]
     exact hap g e
   · rw [h]
     intro e2
     injection e2 with e2
     have:=hcv g e
     omega
 · intro j hj h
   match j,hj,h with
   | 0,_,h=>exact h
   | 1,_,h=>exact h
   | 2,_,h=>exact h
   | 3,_,h=>
     obtain⟨g,h1,h2,_⟩:=h
     exact⟨g,h1,h2,fun e=>absurd e (by decide)⟩
   | 4,hj,_=>exact absurd rfl hj
   | 5,_,h=>exact h
   | 6,_,h=>exact h
   | 7,_,h=>exact h
   | 8,_,h=>
     obtain⟨g,h1,h2,h3⟩:=h
     exact⟨g,h1,h2,fun _=>hk.cell (p:=⟨g,0,none⟩) (fun e=>by have:=hlv g e;omega) (h3 (by decide))⟩
   | 9,_,h=>exact absurd h.1 (by decide)
   | 10,_,h=>exact h
   | 11,_,h=>exact h
   | 12,_,h=>exact h
   | _+13,_,h=>exact h
theorem put_turn1 (hg:ga<nb) (hq:gq<nb) {x:Nat→Value} {W W':World} {v':Value}
 (hB:PutB W0 gq ga nb Q lv cv L C 1 x W) (hown:W'.ownsRow nb 9 1 v' (C.length+1) (C.map .string++[.string c])) (hgr:W.grownBy W' cv.ownBlock):
 PutB W0 gq ga nb Q lv cv L C 2 (fun j=>if j=9 then v' else x j) W'∧PutR W0 gq nb lv cv s c L C 2 9 v' W'∧∀ j,j≠9→PutR W0 gq nb lv cv s c L C 1 j (x j) W→PutR W0 gq nb lv cv s c L C 2 j (x j) W':=by
 obtain⟨h1,h2,h3,h4⟩:=hB
 have hk:=keep_grown hgr
 refine⟨⟨h1.grown hg hq (h3 (by decide)) hk,fun e=>absurd e (by decide),fun e=>absurd e (by decide),Nat.le_trans h4 hgr.size⟩,⟨Nat.le_refl _,slice_of hown,str_snoc hown rfl⟩,?_⟩
 intro j hj h
 match j,hj,h with
 | 0,_,h=>exact h
 | 1,_,h=>exact h
 | 2,_,h=>exact h
 | 3,_,h=>
   obtain⟨g,h1,h2,_⟩:=h
   exact⟨g,h1,h2,fun e=>absurd e (by decide)⟩
 | 4,_,h=>exact⟨by decide,h.2.1,owns_keep h.2.2.1 hk (fun k hk2 e=>h.2.2.2 k e hk2),h.2.2.2⟩
 | 5,_,h=>exact h
 | 6,_,h=>exact h
 | 7,_,h=>exact h
 | 8,_,h=>
   obtain⟨g,h1,h2,_⟩:=h
   exact⟨g,h1,h2,fun e=>absurd e (by decide)⟩
 | 9,hj,_=>exact absurd rfl hj
 | 10,_,h=>exact h
 | 11,_,h=>exact h
 | 12,_,h=>exact h
 | _+13,_,h=>exact h
theorem putR_store (hq:gq<nb) {b i:Nat} (hb:2≤b) {x:Nat→Value} {W:World} (u:Value) (j:Nat) (h:PutR W0 gq nb lv cv s c L C b j (x j) W):PutR W0 gq nb lv cv s c L C (b+1) j (x j) (W.setCell ⟨gq,i,none⟩ u):=by
 have hk:Keep (fun k=>k≠gq) W (W.setCell ⟨gq,i,none⟩ u):=(Keep.refl _ _).setCell (p:=⟨gq,i,none⟩) (fun h=>absurd rfl h) _
 match j,h with
 | 0,h=>exact h
 | 1,h=>exact h
 | 2,h=>exact h
 | 3,h=>
   obtain⟨g,h1,h2,_⟩:=h
   exact⟨g,h1,h2,fun e=>absurd e (by omega)⟩
 | 4,h=>exact⟨by omega,h.2.1,owns_keep h.2.2.1 hk (fun k hk2=>by have:=(h.2.2.1.lt k hk2).1;omega),h.2.2.2⟩
 | 5,h=>exact h
 | 6,h=>exact h
 | 7,h=>exact h
 | 8,h=>
   obtain⟨g,h1,h2,_⟩:=h
   exact⟨g,h1,h2,fun e=>absurd e (by omega)⟩
 | 9,h=>exact⟨by omega,h.2.1,owns_keep h.2.2 hk (fun k hk2=>by have:=(h.2.2.lt k hk2).1;omega)⟩
 | 10,h=>exact h
 | 11,h=>exact h
 | 12,h=>exact h
 | _+13,h=>exact h
theorem put_turn2 (hne:ga≠gq) (hq:gq<nb) {x:Nat→Value} {W:World} (v:Value) (hB:PutB W0 gq ga nb Q lv cv L C 2 x W):
 PutB W0 gq ga nb Q lv cv L C 3 (fun j=>if j=11 then v else x j) (W.setCell ⟨gq,1,none⟩ (x 4))∧∀ j,PutR W0 gq nb lv cv s c L C 2 j (x j) W→PutR W0 gq nb lv cv s c L C 3 j (x j) (W.setCell ⟨gq,1,none⟩ (x 4)):=by
 obtain⟨h1,h2,h3,h4⟩:=hB
 refine⟨⟨?_,fun e=>absurd e (by decide),fun e=>absurd e (by decide),by simpa using h4⟩,fun j h=>putR_store hq (Nat.le_refl _) _ j h⟩
 exact h1.store hne 1 (x 4)
theorem put_turn3 (hne:ga≠gq) (hq:gq<nb) {x:Nat→Value} {W:World} (v:Value) (hB:PutB W0 gq ga nb Q lv cv L C 3 x W):
 PutB W0 gq ga nb Q lv cv L C 4 (fun j=>if j=13 then v else x j) (W.setCell ⟨gq,2,none⟩ (x 9))∧∀ j,PutR W0 gq nb lv cv s c L C 3 j (x j) W→PutR W0 gq nb lv cv s c L C 4 j (x j) (W.setCell ⟨gq,2,none⟩ (x 9)):=by
 obtain⟨h1,h2,h3,h4⟩:=hB
 refine⟨⟨?_,fun e=>absurd e (by decide),fun e=>absurd e (by decide),by simpa using h4⟩,fun j h=>putR_store hq (by decide) _ j h⟩
 exact h1.store hne 2 (x 9)
end Pln
end Go.Proofs.YtpnbkfboneabaaaGreat
namespace Go.Proofs.YtpnbkfboneabaaaGreat
open Go.RowKit
namespace Pln
def LbOn (J:List (Pst × ByteArray)→World→Prop) (S:List (Pst × ByteArray)→Orc) (xs:List (Pst × ByteArray)) (ga:Nat) (need:Nat→Prop) (w:World) (vi:Value) (wr:World):Prop:=
 ∃ i:Nat,i≤xs.length∧vi= .int .i64 (i:Int)∧J (xs.take i) wr∧AskHeld wr ga (S (xs.take i))∧Keep need w wr∧w.heap.size≤wr.heap.size
end Pln
theorem labels1_seq [Sha.Words] (S:List (Pln.Pst × ByteArray)→Orc) (xs:List (Pln.Pst × ByteArray)) (v:Value) (bl ba ga:Nat) (need:Nat→Prop) (w:World) (hnl:need bl) (hna:need ba) (hn0:need 0) (hng:¬ need ga) (_hgl:ga<w.heap.size)
 (hR:Sha.RoundIn w) (hl:w.cell? ⟨bl,0,none⟩=some v) (ha:w.cell? ⟨ba,0,none⟩=some (.pointer (some ⟨ga,0,none⟩))) (hp:Pln.PostsAt w v (xs.map (·.1))) (hpn:∀ ad n c,v= .slice (some ad) n c→0<n→need ad.block)
 (hx:∀ pre x rest,xs=pre++x::rest→(S pre).Good∧Pln.Fit (S pre) x.1∧x.2=Pln.lb (S pre) x.1):
 SeqG Tryz.prog 77 #[.pointer (some ⟨bl,0,none⟩),.pointer (some ⟨ba,0,none⟩)] Pln.encP xs (fun k=>k=ga) need (fun pre W=>Pln.AskHeld W ga (S pre)) (fun pre x W=>Pln.AskHeld W ga ((S pre).ask x.1.q)) w:=by
 intro lp J W hW hz hJ hY hJ0 hA0
 obtain⟨ao,cap,hv,hlen,hcell⟩:=hp
 rw [List.length_map] at hv hlen
 subst hv
 have hlen64:(xs.length:Int)≤9223372036854775807:=by unfold maxLen at hlen;omega
 have cl:=hW.cell (p:=⟨bl,0,none⟩) hnl hl
 have ca:=hW.cell (p:=⟨ba,0,none⟩) hna ha
 have hst:Pln.LbOn J S xs ga need w (.int .i64 0) W:=⟨0,Nat.zero_le _,rfl,by rw [List.take_zero];exact hJ0,by rw [List.take_zero];exact hA0,hW,hW.size⟩
 have hnb:bl≠ga:=fun e=>hng (e ▸ hnl)
 have hnb2:ba≠ga:=fun e=>hng (e ▸ hna)
 have HJ:=Lib.hid hJ
 have HY:=Lib.hid hY
 have Hst:=Lib.hid hst
 have Hc:=Lib.hid hcell
 have Hx:=Lib.hid hx
 have HR:=Lib.hid hR
 have Hpn:=Lib.hid (fun ad h h0=>hpn ad xs.length cap (by rw [h]) h0:∀ ad,ao=some ad→0<xs.length→need ad.block)
 clear hJ hY hst hcell hJ0 hA0 hW hz hlen hx hpn hR
 refine(callsIn_wide (n:=9)).1 ?_
 refine callsIn_of_wp Tryz.func77 rfl trivial ?_ rfl
 simp only [Tryz.ntmps77,List.size_toArray,List.length_cons,List.length_nil,Nat.reduceAdd,Nat.reduceSub,Array.replicate_succ,Array.replicate_zero,List.push_toArray,List.append_toArray,List.nil_append,List.cons_append]
 gi_wp2
 gi_loopw [9] (fun vi wr=>Pln.LbOn J S xs ga need w vi wr) (fun vi _=>xs.length-(intOf vi).toNat)
 case atStart=>exact Hst.out
 case round=>
  clear Hst cl ca
  obtain⟨i,hi,rfl,hj,hA,hk,hzr⟩:=hrel
  by_cases hlt:i<xs.length
  · obtain⟨x,hxi⟩:∃ x,xs[i]? =some x:=⟨_,List.getElem?_eq_getElem hlt⟩
    obtain⟨pb,po,rfl,hc0⟩:=Hc.out i x.1 (by rw [List.getElem?_map,hxi];rfl)
    have hna2:=Hpn.out _ rfl (by omega)
    obtain⟨hg,hfit,hlb⟩:=Hx.out _ _ _ (take_at hxi)
    have hcp:∀ j u,x.1.cells[j]? =some u→wr.cell? ⟨pb,po+i*5+j,none⟩=some u:=fun j u hu=>hk.cell (p:=⟨pb,po+i*5+j,none⟩) hna2 (hc0 j u hu)
    have x0:wr.cell? ⟨pb,po+i*5,none⟩=some (.string x.1.word):=hcp 0 _ rfl
    have x1:=hcp 1 _ rfl
    have x2:=hcp 2 _ rfl
    have x3:=hcp 3 _ rfl
    have x4:=hcp 4 _ rfl
    have ca:=hk.cell (p:=⟨ba,0,none⟩) hna ha
    have hRw:=HR.out.keep hk hn0
    have hba:ba<wr.heap.size:=lt_of_cell ca
    have hgw:ga<wr.heap.size:=hA.lt
    have hlt':(i:Int)<(xs.length:Int):=by omega
    have hL:=fun nv cv W hR hN hC=>oracleLabel_all (S (xs.take i)) hg nv cv x.1.word x.1.ep x.1.ct hfit.1.word hfit.1.ep hfit.1.ct hfit.2.1 hfit.2.2 W hR hN hC
    obtain⟨P,hP⟩:∃ P,S (xs.take i)=P:=⟨_,rfl⟩
    rw [hP] at hL hA
    obtain⟨Q,hQ⟩:∃ Q,P.ask x.1.q=Q:=⟨_,rfl⟩
    obtain⟨s,hs⟩:∃ s,(P.wayL x.1.q).1=s:=⟨_,rfl⟩
    change ∀ nv cv W,_→_→_→Calls _ _ _ W fun y w'=>∃ nv' cv',y= .returned (.tuple #[.string (P.wayL x.1.q).1,(P.ask x.1.q).agg nv' cv',.int .i64 0])∧NmAt w' W.heap.size nv' (P.ask x.1.q).d.nm∧ClAt w' W.heap.size cv' (P.ask x.1.q).d.cl∧Below W.heap.size W w' at hL
    rw [hQ,hs] at hL
    have hxs:x.2=s:=by rw [hlb,hP,← hs];rfl
    obtain⟨n1,m1,c1,k1,ra,hN,hC⟩:=hA
    unfold Orc.agg Orc.vals at hL
    unfold Pln.askV at ra
    have HL:=Lib.hid hL
    have Hj:=Lib.hid hj
    have Hk:=Lib.hid hk
    have HP:=Lib.hid hP
    have HQ:=Lib.hid hQ
    have Hs:=Lib.hid hs
    have Hxs:=Lib.hid hxs
    have Hxi:=Lib.hid hxi
    have Hzr:=Lib.hid hzr
    have hb6:=(Below.refl wr.heap.size wr).alloc (Nat.le_refl _) (.cells #[.string x.1.word,.int .i64 (x.1.ep:Int),.int .i64 (x.1.ct:Int),.int .i64 (x.1.kind:Int),.int .i64 (x.1.id:Int)] 27)
    have ra6:=ra.below hb6 hgw
    have hN6:=owns_below hN hb6
    have hC6:=owns_below hC hb6
    have hR6:=hRw.below hb6
    have ca6:=cell_below hb6 ca
    have rp6:=Row.new wr 27 #[.string x.1.word,.int .i64 (x.1.ep:Int),.int .i64 (x.1.ct:Int),.int .i64 (x.1.kind:Int),.int .i64 (x.1.id:Int)]
    clear hL hj hk hP hQ hs hxs hxi hcp hc0 hg hfit hlb ra hN hC hRw hzr
    gi_wp2
    have hz6:(wr.alloc (.cells #[.string x.1.word,.int .i64 (x.1.ep:Int),.int .i64 (x.1.ct:Int),.int .i64 (x.1.kind:Int),.int .i64 (x.1.id:Int)] 27)).heap.size=wr.heap.size+1:=World.size_alloc _ _
    obtain⟨W6,hW6⟩:∃ W6,wr.alloc (.cells #[.string x.1.word,.int .i64 (x.1.ep:Int),.int .i64 (x.1.ct:Int),.int .i64 (x.1.kind:Int),.int .i64 (x.1.id:Int)] 27)=W6:=⟨_,rfl⟩
    rw [hW6] at hb6 ra6 hN6 hC6 hR6 ca6 rp6 hz6 ⊢
    obtain⟨pz,hpz⟩:∃ pz,wr.heap.size=pz:=⟨_,rfl⟩
    rw [hpz] at hb6 rp6 hz6 hba hgw ⊢
    clear hW6 x0 x1 x2 x3 x4 ca
    have hAd:∀ W',Below W6.heap.size W6 W'→Row W' ga 94 #[.int .i64 P.m,.string P.key,.string P.d.tb,.int .i64 (P.d.pos:Int),.slice n1 P.d.nm.length m1,.slice c1 P.d.cl.length k1,.bool P.d.clash,.int .i64 0]:=fun W' hb=>ra6.below hb ra6.lt
    have hPd:∀ W',Below W6.heap.size W6 W'→Row W' pz 27 #[.string x.1.word,.int .i64 (x.1.ep:Int),.int .i64 (x.1.ct:Int),.int .i64 (x.1.kind:Int),.int .i64 (x.1.id:Int)]:=fun W' hb=>rp6.below hb rp6.lt
    have hNd:∀ W',Below W6.heap.size W6 W'→NmAt W' 0 (.slice n1 P.d.nm.length m1) P.d.nm:=fun W' hb=>owns_below hN6 hb
    have hCd:∀ W',Below W6.heap.size W6 W'→ClAt W' 0 (.slice c1 P.d.cl.length k1) P.d.cl:=fun W' hb=>owns_below hC6 hb
    have hRd:∀ W',Below W6.heap.size W6 W'→Sha.RoundIn W':=fun W' hb=>hR6.below hb
    have HNd:=Lib.hid hNd
    have HCd:=Lib.hid hCd
    have HRd:=Lib.hid hRd
    have HAd:=Lib.hid hAd
    have HPd:=Lib.hid hPd
    have Hb6:=Lib.hid hb6
    clear hAd hPd hb6 hNd hCd hRd hN6 hC6 hR6 rp6 ra6
    refine wpIn_wide.2 ?_
    go_cut [6] from 13 to 33 (fun v6 wx=>v6= .string s∧Pln.AskHeld wx ga Q∧Keep (fun k=>k≠ga) W6 wx)
    case first=>
     refine wp_region_any (by kernel_rfl) ?_
     change wpAny _ _ _ _ _ _ _ (World.drew W6)
     refine wpAny_turns 21 20 [14,15,16,17,18,19,20,21,22,23,24,25,26,13,27,28,29,6,30,31,100000] 3 #[true,true,true,true,true,true,true,true,true,true,true,true,true,true,true,true,true,true,true,true,true,false,false,false] (fun b W=>(b=false→Below W6.heap.size W6 W)∧(b=true→Pln.AskHeld W ga Q)∧Keep (fun k=>k≠ga) W6 W) (fun b j v W=>match j with
      | 0=>v= .pointer (some ⟨ga,0,none⟩)
      | 1=>v= .pointer (some ⟨ga,0,none⟩)
      | 2=>v= .pointer (some ⟨ga,0,none⟩)
      | 3=>v= .pointer (some ⟨ga,0,none⟩)
      | 4=>v= .pointer (some ⟨ga,0,none⟩)
      | 5=>v= .agg (Orc.vals P.m P.key P.d.tb P.d.pos (.slice n1 P.d.nm.length m1) (.slice c1 P.d.cl.length k1) P.d.clash)
      | 6=>v= .pointer (some ⟨pz,0,none⟩)
      | 7=>v= .string x.1.word
      | 8=>v= .pointer (some ⟨pz,1,none⟩)
      | 9=>v= .int .i64 (x.1.ep:Int)
      | 10=>v= .pointer (some ⟨pz,2,none⟩)
      | 11=>v= .int .i64 (x.1.ct:Int)
      | 12=>TupIs b s Q v W
      | 13=>TupIs b s Q v W
      | 14=>v= .string s
      | 15=>AggIs b Q v W
      | 16=>v= .int .i64 0
      | 17=>v= .string s
      | 18=>v= .pointer (some ⟨ga,0,none⟩)
      | 19=>v= .pointer (some ⟨ga,0,none⟩)
      | _=>True) 47 (by kernel_rfl) (by kernel_rfl) (by kernel_rfl) (by kernel_rfl) (by decide) ?_ ⟨fun _=>(Below.refl _ W6).drew,(fun h=>absurd h (by decide)),(Keep.refl _ W6).drew⟩ (fun b w w' h hb=>⟨fun e=>(h.1 e).trans (hb.mono (h.1 e).size),fun e=>(h.2.1 e).below hb,h.2.2.trans ((Keep.below hb).mono fun _ _ _=>trivial)⟩) ?_ ?_ ?_
     · intro b j v W W' h hb
       rcases j with _ | _ | _ | _ | _ | _ | _ | _ | _ | _ | _ | _ | _ | _ | _ | _ | _ | _ | _ | _ | j
       · exact h
       · exact h
       · exact h
       · exact h
       · exact h
       · exact h
       · exact h
       · exact h
       · exact h
       · exact h
       · exact h
       · exact h
       · exact TupIs.mono h hb
       · exact TupIs.mono h hb
       · exact h
       · exact AggIs.mono h hb
       · exact h
       · exact h
       · exact h
       · exact h
       · exact h
     · refine CSteps.ahead rfl (by kernel_rfl) (fun y W ρ hB hdep hin hout hcon hfun=> ?_) (CSteps.free rfl (fun b y W ρ hB hdep hin hout hcon hfun=> ?_) (CSteps.ahead rfl (by kernel_rfl) (fun y W ρ hB hdep hin hout hcon hfun=> ?_) (CSteps.ahead rfl (by kernel_rfl) (fun y W ρ hB hdep hin hout hcon hfun=> ?_) (CSteps.ahead rfl (by kernel_rfl) (fun y W ρ hB hdep hin hout hcon hfun=> ?_) (CSteps.ahead rfl (by kernel_rfl) (fun y W ρ hB hdep hin hout hcon hfun=> ?_) (CSteps.ahead rfl (by kernel_rfl) (fun y W ρ hB hdep hin hout hcon hfun=> ?_) (CSteps.ahead rfl (by kernel_rfl) (fun y W ρ hB hdep hin hout hcon hfun=> ?_) (CSteps.ahead rfl (by kernel_rfl) (fun y W ρ hB hdep hin hout hcon hfun=> ?_) (CSteps.ahead rfl (by kernel_rfl) (fun y W ρ hB hdep hin hout hcon hfun=> ?_) (CSteps.ahead rfl (by kernel_rfl) (fun y W ρ hB hdep hin hout hcon hfun=> ?_) (CSteps.ahead rfl (by kernel_rfl) (fun y W ρ hB hdep hin hout hcon hfun=> ?_) (CSteps.ahead rfl (by kernel_rfl) (fun y W ρ hB hdep hin hout hcon hfun=> ?_) (CSteps.ahead rfl (by kernel_rfl) (fun y W ρ hB hdep hin hout hcon hfun=> ?_) (CSteps.ahead rfl (by kernel_rfl) (fun y W ρ hB hdep hin hout hcon hfun=> ?_) (CSteps.ahead rfl (by kernel_rfl) (fun y W ρ hB hdep hin hout hcon hfun=> ?_) (CSteps.free rfl (fun b y W ρ hB hdep hin hout hcon hfun=> ?_) (CSteps.ahead rfl (by kernel_rfl) (fun y W ρ hB hdep hin hout hcon hfun=> ?_) (CSteps.free rfl (fun b y W ρ hB hdep hin hout hcon hfun=> ?_) (CSteps.ahead rfl (by kernel_rfl) (fun y W ρ hB hdep hin hout hcon hfun=> ?_) (CSteps.skip (CSteps.nil (by decide))))))))))))))))))))))
       · skip
         have e2:=hout 2 (by decide)
         change ρ (.tmp 2)= .pointer (some ⟨ba,0,none⟩) at e2
         have v0:=hB.2.2.cell (p:=⟨ba,0,none⟩) hnb2 ca6
         clear hdep hin hout
         refine Stepped.val ?_ rfl
         go_simp
       · skip
         have e2:=hout 2 (by decide)
         change ρ (.tmp 2)= .pointer (some ⟨ba,0,none⟩) at e2
         have v0:=hB.2.2.cell (p:=⟨ba,0,none⟩) hnb2 ca6
         clear hdep hin hout
         refine Stepped.val ?_ rfl
         go_simp
       · skip
         have e2:=hout 2 (by decide)
         change ρ (.tmp 2)= .pointer (some ⟨ba,0,none⟩) at e2
         have v0:=hB.2.2.cell (p:=⟨ba,0,none⟩) hnb2 ca6
         clear hdep hin hout
         refine Stepped.val ?_ rfl
         go_simp
       · skip
         have d2:=hdep ⟨2,.data⟩ (by simp) rfl (by decide)
         have e16:=hin 2 16 rfl (by decide)
         rw [show y 2=_ from d2] at e16
         clear hdep hin hout
         refine Stepped.val ?_ rfl
         go_simp
       · skip
         have d3:=hdep ⟨3,.data⟩ (by simp) rfl (by decide)
         have e17:=hin 3 17 rfl (by decide)
         rw [show y 3=_ from d3] at e17
         clear hdep hin hout
         refine Stepped.val ?_ rfl
         go_simp
       · skip
         have d4:=hdep ⟨4,.data⟩ (by simp) rfl (by decide)
         have e18:=hin 4 18 rfl (by decide)
         rw [show y 4=_ from d4] at e18
         have rA:=HAd.out W (hB.1 rfl)
         have z0:=rA.cell 0
         have z1:=rA.cell 1
         have z2:=rA.cell 2
         have z3:=rA.cell 3
         have z4:=rA.cell 4
         have z5:=rA.cell 5
         have z6:=rA.cell 6
         change World.cell? _ _=some _ at z0 z1 z2 z3 z4 z5 z6
         clear rA
         clear hdep hin hout
         refine Stepped.val ?_ rfl
         unfold Orc.vals
         go_simp
       · skip
         have e5:=hout 5 (by decide)
         change ρ (.tmp 5)= .pointer (some ⟨pz,0,none⟩) at e5
         clear hdep hin hout
         refine Stepped.val ?_ rfl
         go_simp
       · skip
         have d6:=hdep ⟨6,.data⟩ (by simp) rfl (by decide)
         have e20:=hin 6 20 rfl (by decide)
         rw [show y 6=_ from d6] at e20
         have rP:=HPd.out W (hB.1 rfl)
         have zp:=rP.cell 0
         change World.cell? _ _=some _ at zp
         clear rP
         clear hdep hin hout
         refine Stepped.val ?_ rfl
         go_simp
       · skip
         have e5:=hout 5 (by decide)
         change ρ (.tmp 5)= .pointer (some ⟨pz,0,none⟩) at e5
         clear hdep hin hout
         refine Stepped.val ?_ rfl
         go_simp
       · skip
         have d8:=hdep ⟨8,.data⟩ (by simp) rfl (by decide)
         have e22:=hin 8 22 rfl (by decide)
         rw [show y 8=_ from d8] at e22
         have rP:=HPd.out W (hB.1 rfl)
         have zp:=rP.cell 1
         change World.cell? _ _=some _ at zp
         clear rP
         clear hdep hin hout
         refine Stepped.val ?_ rfl
         go_simp
       · skip
         have e5:=hout 5 (by decide)
         change ρ (.tmp 5)= .pointer (some ⟨pz,0,none⟩) at e5
         clear hdep hin hout
         refine Stepped.val ?_ rfl
         go_simp
       · skip
         have d10:=hdep ⟨10,.data⟩ (by simp) rfl (by decide)
         have e24:=hin 10 24 rfl (by decide)
         rw [show y 10=_ from d10] at e24
         have rP:=HPd.out W (hB.1 rfl)
         have zp:=rP.cell 2
         change World.cell? _ _=some _ at zp
         clear rP
         clear hdep hin hout
         refine Stepped.val ?_ rfl
         go_simp
       · skip
         have d5:=hdep ⟨5,.data⟩ (by simp) rfl (by decide)
         have e19:=hin 5 19 rfl (by decide)
         rw [show y 5=_ from d5] at e19
         have d7:=hdep ⟨7,.data⟩ (by simp) rfl (by decide)
         have e21:=hin 7 21 rfl (by decide)
         rw [show y 7=_ from d7] at e21
         have d9:=hdep ⟨9,.data⟩ (by simp) rfl (by decide)
         have e23:=hin 9 23 rfl (by decide)
         rw [show y 9=_ from d9] at e23
         have d11:=hdep ⟨11,.data⟩ (by simp) rfl (by decide)
         have e25:=hin 11 25 rfl (by decide)
         rw [show y 11=_ from d11] at e25
         unfold Orc.vals at e19
         have hcl:=HL.out (.slice n1 P.d.nm.length m1) (.slice c1 P.d.cl.length k1) W (HRd.out W (hB.1 rfl)) (HNd.out W (hB.1 rfl)) (HCd.out W (hB.1 rfl))
         clear hdep hin hout
         refine Stepped.call (f:=78) (args:=#[.agg #[.int .i64 P.m,.string P.key,.string P.d.tb,.int .i64 (P.d.pos:Int),.slice n1 P.d.nm.length m1,.slice c1 P.d.cl.length k1,.bool P.d.clash],.string x.1.word,.int .i64 (x.1.ep:Int),.int .i64 (x.1.ct:Int)]) ?_ ?_
         · go_simp
         · refine hcl.mono ?_
           rintro e w3 ⟨nv2,cv2,rfl,hN2,hC2,hb3⟩
           obtain⟨n2,m2,rfl⟩:=slice_of hN2
           obtain⟨c2,k2,rfl⟩:=slice_of hC2
           exact⟨_,rfl,hb3,n2,m2,c2,k2,rfl,fun _=>⟨ownsRow_weak hN2 (Nat.zero_le _),ownsRow_weak hC2 (Nat.zero_le _)⟩⟩
       · skip
         have d12:=hdep ⟨12,.data⟩ (by simp) rfl (by decide)
         have e26:=hin 12 26 rfl (by decide)
         obtain⟨n2,m2,c2,k2,d12,hnc⟩:=d12
         rw [show y 12=_ from d12] at e26
         unfold Orc.vals at e26
         clear hdep hin hout
         refine Stepped.val (v:= .tuple #[.string s,.agg (Orc.vals Q.m Q.key Q.d.tb Q.d.pos (.slice n2 Q.d.nm.length m2) (.slice c2 Q.d.cl.length k2) Q.d.clash),.int .i64 0]) ?_ ⟨n2,m2,c2,k2,rfl,hnc⟩
         unfold Orc.vals
         go_simp
       · skip
         have d13:=hdep ⟨13,.data⟩ (by simp) rfl (by decide)
         have e13:=hin 13 13 rfl (by decide)
         obtain⟨n2,m2,c2,k2,d13,hnc⟩:=d13
         rw [show y 13=_ from d13] at e13
         unfold Orc.vals at e13
         clear hdep hin hout
         refine Stepped.val ?_ rfl
         go_simp
       · skip
         have d13:=hdep ⟨13,.data⟩ (by simp) rfl (by decide)
         have e13:=hin 13 13 rfl (by decide)
         obtain⟨n2,m2,c2,k2,d13,hnc⟩:=d13
         rw [show y 13=_ from d13] at e13
         unfold Orc.vals at e13
         clear hdep hin hout
         refine Stepped.val (v:= .agg (Orc.vals Q.m Q.key Q.d.tb Q.d.pos (.slice n2 Q.d.nm.length m2) (.slice c2 Q.d.cl.length k2) Q.d.clash)) ?_ ⟨n2,m2,c2,k2,rfl,hnc⟩
         unfold Orc.vals
         go_simp
       · skip
         have d13:=hdep ⟨13,.data⟩ (by simp) rfl (by decide)
         have e13:=hin 13 13 rfl (by decide)
         obtain⟨n2,m2,c2,k2,d13,hnc⟩:=d13
         rw [show y 13=_ from d13] at e13
         unfold Orc.vals at e13
         clear hdep hin hout
         refine Stepped.val ?_ rfl
         go_simp
       · skip
         have d14:=hdep ⟨14,.data⟩ (by simp) rfl (by decide)
         have e27:=hin 14 27 rfl (by decide)
         rw [show y 14=_ from d14] at e27
         clear hdep hin hout
         refine Stepped.val ?_ rfl
         go_simp
       · skip
         have d0:=hdep ⟨0,.data⟩ (by simp) rfl (by decide)
         have e14:=hin 0 14 rfl (by decide)
         rw [show y 0=_ from d0] at e14
         clear hdep hin hout
         refine Stepped.val ?_ rfl
         go_simp
       · skip
         have d18:=hdep ⟨18,.data⟩ (by simp) rfl (by decide)
         have e30:=hin 18 30 rfl (by decide)
         rw [show y 18=_ from d18] at e30
         clear hdep hin hout
         refine Stepped.val ?_ rfl
         go_simp
     · intro o ho y W ρ hB hdep hin hout hcon
       cases ho
       have dg:=hdep ⟨19,.data⟩ (by simp) rfl
       obtain⟨n2,m2,c2,k2,da,hnc⟩:=hdep ⟨15,.data⟩ (by simp) rfl
       have eg:=hin 19 31 rfl (by decide)
       have ea:=hin 15 28 rfl (by decide)
       rw [show y 19=_ from dg] at eg
       rw [show y 15=_ from da] at ea
       have rA:=HAd.out W (hB.1 rfl)
       have z0:=rA.cell 0
       have z1:=rA.cell 1
       have z2:=rA.cell 2
       have z3:=rA.cell 3
       have z4:=rA.cell 4
       have z5:=rA.cell 5
       have z6:=rA.cell 6
       change World.cell? _ _=some _ at z0 z1 z2 z3 z4 z5 z6
       have f0:=rA.frozen 0
       have f1:=rA.frozen 1
       have f2:=rA.frozen 2
       have f3:=rA.frozen 3
       have f4:=rA.frozen 4
       have f5:=rA.frozen 5
       have f6:=rA.frozen 6
       have hh:=Pln.held_put7 (P:=Q) rA rfl (hnc rfl).1 (hnc rfl).2
       have hk:=hB.2.2.trans (Pln.keep_put7 W ga fun i=>(Orc.vals Q.m Q.key Q.d.tb Q.d.pos (.slice n2 Q.d.nm.length m2) (.slice c2 Q.d.cl.length k2) Q.d.clash).getD i undef)
       refine⟨put7 W ga fun i=>(Orc.vals Q.m Q.key Q.d.tb Q.d.pos (.slice n2 Q.d.nm.length m2) (.slice c2 Q.d.cl.length k2) Q.d.clash).getD i undef,.inl ?_,⟨(fun h=>absurd h (by decide)),fun _=>hh,hk⟩,?_⟩
       · clear hh hk hdep hin hout
         unfold put7
         unfold Orc.vals at ea ⊢
         go_simp
       · intro j hj h
         rcases j with _ | _ | _ | _ | _ | _ | _ | _ | _ | _ | _ | _ | _ | _ | _ | _ | _ | _ | _ | _ | j
         · exact h
         · exact h
         · exact h
         · exact h
         · exact h
         · exact h
         · exact h
         · exact h
         · exact h
         · exact h
         · exact h
         · exact h
         · exact TupIs.late _ h
         · exact TupIs.late _ h
         · exact h
         · exact AggIs.late _ h
         · exact h
         · exact h
         · exact h
         · exact h
         · trivial
     · intro y W hB hR
       obtain⟨-,hA2,hk2⟩:=hB
       have d1:=hR 1 (by decide) (by decide)
       have d16:=hR 16 (by decide) (by decide)
       have d17:=hR 17 (by decide) (by decide)
       clear hR
       change y 1=_ at d1
       change y 16=_ at d16
       change y 17=_ at d17
       obtain⟨n3,m3,c3,k3,rB,hN3,hC3⟩:=hA2 rfl
       have hno:=owns_other hN3 rB (by decide)
       have hco:=owns_other hC3 rB (by decide)
       have z7:=rB.cell 7
       change World.cell? _ _=some _ at z7
       have f7:=rB.frozen 7
       have hk7:Keep (fun k=>k≠ga) W (W.setCell ⟨ga,7,none⟩ (.int .i64 0)):=(Keep.refl _ _).setCell (p:=⟨ga,7,none⟩) (fun h=>absurd rfl h) _
       have hnx:Pln.AskHeld (W.setCell ⟨ga,7,none⟩ (.int .i64 0)) ga Q:=⟨n3,m3,c3,k3,rB.store 7 _,owns_keep hN3 hk7 hno,owns_keep hC3 hk7 hco⟩
       have hk8:=hk2.trans hk7
       have Hnx:=Lib.hid hnx
       have Hk8:=Lib.hid hk8
       clear hnx hk8 hk7 hk2 hA2 rB hN3 hC3 hno hco
       simp only [putAll,Act.put,d1,d16,d17]
       refine wpAny_ready (rs:=[21]) (by kernel_rfl) (by simp) ?_
       refine AllReady.cons rfl (fun K hK=> ?_) AllReady.nil
       go_simp
       refine hK _ _ ?_
       clear hK K
       refine wpAny_ready (rs:=[22]) (by kernel_rfl) (by simp) ?_
       refine AllReady.cons rfl (fun K hK=> ?_) AllReady.nil
       go_simp
       refine hK _ _ ?_
       clear hK K
       refine wpAny_ready (rs:=[23]) (by kernel_rfl) (by simp) ?_
       refine AllReady.cons rfl (fun K hK=> ?_) AllReady.nil
       go_simp
       refine hK _ _ ?_
       clear hK K
       refine wpAny_done (by kernel_rfl) ?_ _
       go_wp2
       go_meet
       exact⟨rfl,Hnx.out,Hk8.out⟩
    case rest=>
     obtain⟨w3,rfl⟩:∃ w3,w3=wc:=⟨_,rfl⟩
     obtain⟨rfl,hAQ,hk3⟩:=hcut
     have hkr:Keep (fun k=>k≠ga) wr w3:=((Keep.below (S:=fun _=>True) (hpz ▸ Hb6.out)).mono fun _ _ _=>trivial).trans hk3
     have hj3:=HJ.out _ _ _ Hj.out hkr
     have hmid:Pln.AskHeld w3 ga ((S (xs.take i)).ask x.1.q):=by rw [HP.out,HQ.out];exact hAQ
     have hY1:=HY.out _ _ _ (take_at Hxi.out) w3 hj3 hmid
     obtain⟨fn,tmps,assign,body,hy,hR⟩:=hY1
     unfold Pln.encP Pln.Pst.cells at hy
     rw [Hxs.out] at hy
     have hpne:pz≠ga:=by omega
     have rP3:=(HPd.out W6 (Below.refl _ _)).keep hk3 hpne
     have ca3:=hk3.cell (p:=⟨ba,0,none⟩) hnb2 ca6
     have q0:=rP3.cell 0
     change World.cell? _ _=some _ at q0
     have q1:=rP3.cell 1
     change World.cell? _ _=some _ at q1
     have q2:=rP3.cell 2
     change World.cell? _ _=some _ at q2
     have q3:=rP3.cell 3
     change World.cell? _ _=some _ at q3
     have q4:=rP3.cell 4
     change World.cell? _ _=some _ at q4
     obtain⟨n3,m3,c3,k3,rB,-,-⟩:=hAQ
     have z7:w3.cell? ⟨ga,7,none⟩=some (.int .i64 0):=rB.cell 7
     have Hk3:=Lib.hid (Hk.out.trans (hkr.mono fun k hk _ e=>hng (e ▸ hk)))
     have Hz3:=Lib.hid hkr.size
     clear hkr hj3 hmid rP3 rB hk3 HL HAd HPd HNd HCd HRd Hb6
     gi_wp2
     refine(hR 8).mono ?_
     rintro e W3 ⟨rfl,hj4,hA4,hk4⟩
     have hnx:Pln.LbOn J S xs ga need w (.int .i64 ((i:Int)+1)) W3:=by
      refine⟨i+1,by omega,by simp,?_,?_,Hk3.out.trans hk4,?_⟩
      · rw [take_one Hxi.out]
        exact hj4
      · rw [take_one Hxi.out]
        exact hA4
      · have:=hk4.size
        have:=Hz3.out
        have:=Hzr.out
        omega
     have Hnx:=Lib.hid hnx
     clear hnx hj4 hA4 hk4 hy hR
     gi_wp2
     go_roundw
     all_goals first | exact Hnx.out | (simp [intOf];omega)
  · obtain rfl:i=xs.length:=by omega
    rw [List.take_length] at hj hA
    have Hj:=Lib.hid hj
    have HA:=Lib.hid hA
    clear hj hk hA hzr
    gi_wp2
    exact⟨rfl,_,results_none rfl _ _ _,⟨_,rfl⟩,Hj.out,HA.out⟩
end Go.Proofs.YtpnbkfboneabaaaGreat
