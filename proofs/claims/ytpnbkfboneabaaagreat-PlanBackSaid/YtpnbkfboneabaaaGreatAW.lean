import Derived.Test.YtpnbkfboneabaaaGreatFO
import Derived.Test.YtpnbkfboneabaaaGreatMT
import Derived.Test.YtpnbkfboneabaaaGreatDR
import Derived.Test.YtpnbkfboneabaaaGreatOD
set_option maxRecDepth 100000
set_option maxHeartbeats 4000000
namespace Go.Proofs.YtpnbkfboneabaaaGreat
open Go.RowKit
namespace Pln
structure Room (o:Orc) (n:Nat):Prop where
 nm:o.d.nm.length+n≤2000
 cl:o.d.cl.length+n≤2000
 tp:o.m=2→o.d.pos+56*n≤o.d.tb.size
theorem room_one [Sha.Words] {o:Orc} {p:Pst} {n:Nat} (hg:o.Good) (hp:p.Good) (h:Room o (n+1)):Fit2 o p∧Room (one o p) n:=by
 obtain⟨h1,h2,h3⟩:=h
 have hl:o.d.nm.length≠2000:=by omega
 have hp1:o.m=2→o.d.pos+16≤o.d.tb.size:=fun e=>by have:=h3 e;omega
 have s1:=Orc.ask_step hg p.q hp.q hl hp1
 have hm1:(o.ask p.q).m=o.m:=rfl
 have hpos:o.m=2→(o.ask p.q).d.pos≤o.d.pos+16:=fun e=>by
  rcases s1.2.2.2.2.2 with ⟨_,h⟩ | ⟨_,h⟩
  · omega
  · rw [h]
    unfold Orc.cost
    split <;> omega
 have hnl:(o.ask p.q).d.nm.length≤o.d.nm.length+1:=by
  rcases s1.2.2.2.2.2 with ⟨h,_⟩ | ⟨h,_⟩
  · rw [h];omega
  · rw [h,List.length_append,List.length_singleton]
    exact Nat.le_refl _
 have hcl:o.d.cl.length≠2000:=by omega
 have hp2:o.m=2→(o.ask p.q).d.pos+40≤o.d.tb.size:=fun e=>by have:=h3 e;have:=hpos e;omega
 have hf:Fit2 o p:=⟨⟨hp,hl,hp1⟩,hcl,hp2⟩
 have s2:=Orc.put_step s1.1 (lb o p) p.tx s1.2.1 p.tx_size (by rw [s1.2.2.2.2.1];exact hcl) (by rw [s1.2.2.2.1];exact hp2)
 refine⟨hf,?_,?_,?_⟩
 · show(one o p).d.nm.length+n≤2000
   unfold one
   rw [s2.2.2.2.2.1]
   omega
 · show(one o p).d.cl.length+n≤2000
   unfold one
   rcases s2.2.2.2.2.2 with ⟨h,_⟩ | ⟨h,_⟩
   · rw [h,s1.2.2.2.2.1];omega
   · rw [h,List.length_append,List.length_singleton,s1.2.2.2.2.1];omega
 · intro e
   have e2:o.m=2:=e
   show(one o p).d.pos+56*n≤(one o p).d.tb.size
   have h5:=h3 e2
   have h6:=hpos e2
   unfold one
   rw [s2.2.2.2.1,s1.2.2.2.1]
   rcases s2.2.2.2.2.2 with ⟨_,h⟩ | ⟨_,h,_⟩
   · rw [h];omega
   · rw [h]
     unfold Orc.cost
     split <;> omega
theorem fits_room [Sha.Words]:∀ {l:List Pst} {o:Orc},o.Good→(∀ p∈l,p.Good)→Room o l.length→Fits o l
 | [],_,_,_,_=>trivial
 | p::l,o,hg,hp,h=>by
   have h1:=room_one hg (hp p List.mem_cons_self) h
   exact⟨h1.1,fits_room (one_good hg h1.1).2.1 (fun q hq=>hp q (List.mem_cons_of_mem _ hq)) h1.2⟩
theorem room_all [Sha.Words]:∀ {l:List Pst} {o:Orc} {n:Nat},o.Good→(∀ p∈l,p.Good)→Room o (l.length+n)→Room (all o l) n
 | [],_,n,_,_,h=>by simpa [all] using h
 | p::l,o,n,hg,hp,h=>by
   have h1:=room_one (n:=l.length+n) hg (hp p List.mem_cons_self) (by rw [List.length_cons,Nat.add_right_comm] at h;exact h)
   exact room_all (l:=l) (one_good hg h1.1).2.1 (fun q hq=>hp q (List.mem_cons_of_mem _ hq)) h1.2
theorem one_in [Sha.Words] {o:Orc} {p:Pst} (hg:o.Good) (h:Fit2 o p):(p.q,lb o p)∈(one o p).d.nm∧(lb o p,p.tx,ce o p)∈(one o p).d.cl∧(∀ n∈o.d.nm,n∈(one o p).d.nm)∧(∀ c∈o.d.cl,c∈(one o p).d.cl):=by
 have s1:=Orc.ask_step hg p.q h.1.1.q h.1.2.1 h.1.2.2
 have s2:=Orc.put_step s1.1 (lb o p) p.tx s1.2.1 p.tx_size (by rw [s1.2.2.2.2.1];exact h.2.1) (by rw [s1.2.2.2.1];exact h.2.2)
 refine⟨?_,s2.2.2.1,fun n hn=> ?_,fun c hc=> ?_⟩
 · unfold one
   rw [s2.2.2.2.2.1]
   exact s1.2.2.1
 · unfold one
   rw [s2.2.2.2.2.1]
   rcases s1.2.2.2.2.2 with ⟨h,_⟩ | ⟨h,_⟩
   · rw [h];exact hn
   · rw [h];exact List.mem_append_left _ hn
 · unfold one
   rw [← s1.2.2.2.2.1] at hc
   rcases s2.2.2.2.2.2 with ⟨h,_⟩ | ⟨h,_⟩
   · rw [h];exact hc
   · rw [h];exact List.mem_append_left _ hc
theorem all_keeps [Sha.Words]:∀ {l:List Pst} {o:Orc},o.Good→Fits o l→(∀ n∈o.d.nm,n∈(all o l).d.nm)∧(∀ c∈o.d.cl,c∈(all o l).d.cl)
 | [],_,_,_=>⟨fun _ h=>h,fun _ h=>h⟩
 | p::l,o,hg,h=>by
   have h1:=one_in hg h.1
   have h2:=all_keeps (l:=l) (one_good hg h.1).2.1 h.2
   exact⟨fun n hn=>h2.1 n (h1.2.2.1 n hn),fun c hc=>h2.2 c (h1.2.2.2 c hc)⟩
theorem prs_in [Sha.Words]:∀ {l:List Pst} {o:Orc},o.Good→Fits o l→∀ x∈prs o l,(x.1.q,x.2)∈(all o l).d.nm
 | [],_,_,_,x,hx=>by cases hx
 | p::l,o,hg,h,x,hx=>by
   have hg2:=(one_good hg h.1).2.1
   rw [prs] at hx
   rcases List.mem_cons.1 hx with rfl | hx
   · exact(all_keeps hg2 h.2).1 _ (one_in hg h.1).1
   · exact prs_in hg2 h.2 x hx
def Boxed [Sha.Words] (o:Orc):Prop:=o.m=1→∀ c∈o.d.cl,c.2.2=Orc.box o.key c.1 c.2.1
theorem wayO_found [Sha.Words] {o:Orc} (hg:o.Good) (hb:Boxed o) (hcl:o.d.clash=false) {l t c:ByteArray} (h:(l,t,c)∈o.d.cl):o.wayO l c=(t,0):=by
 rcases hg.m with hm | hm
 · have hc:c=Orc.box o.key l t:=hb hm _ h
   subst hc
   unfold Orc.wayO
   rw [if_pos hm]
   exact Seal.opens_box _ _ _ _
 · unfold Orc.wayO
   rw [if_neg (by omega)]
   obtain⟨t',h1,h2⟩:=Idl.opens_found h
   rw [h1,h2 hcl]
theorem opensTo_way [Sha.Words] {o:Orc} (hg:o.Good) {l c:ByteArray} (hl:l.size=16) (hc:c.size=40):OpensTo o l c (o.wayO l c).1 (o.wayO l c).2:=fun nv cv W hR hN hC=>oracleOpen_all o hg nv cv l c hl hc W hR hN hC
theorem opensTo_found [Sha.Words] {o:Orc} (hg:o.Good) (hb:Boxed o) (hcl:o.d.clash=false) {l t c:ByteArray} (hl:l.size=16) (hc:c.size=40) (h:(l,t,c)∈o.d.cl):OpensTo o l c t 0:=by
 have h1:=opensTo_way hg hl hc
 rw [wayO_found hg hb hcl h] at h1
 exact h1
theorem ask_known [Sha.Words] {o:Orc} (hg:o.Good) (q s:ByteArray) (hl:o.d.nm.length≠2000) (hp:o.m=2→o.d.pos+16≤o.d.tb.size) (h:(q,s)∈o.d.nm):o.ask q=o∧(o.wayL q).1=s:=by
 rcases Orc.wayL_cases hg q hl hp with ⟨s',hs,hw⟩ | ⟨hn,_⟩
 · refine⟨?_,?_⟩
   · unfold Orc.ask
     rw [hw]
   · rw [hw]
     have h1:o.d.label q=(s,o.d,0):=Idl.label_found hg.d h
     rw [Idl.label_found hg.d hs] at h1
     injection h1
 · exact absurd (List.mem_map_of_mem (f:=fun x:ByteArray × ByteArray=>x.1) h) hn
theorem asks_known [Sha.Words] {o:Orc} (hg:o.Good) (hl:o.d.nm.length≠2000) (hp:o.m=2→o.d.pos+16≤o.d.tb.size):∀(X:List (Pst × ByteArray)),(∀ x∈X,x.1.Good∧(x.1.q,x.2)∈o.d.nm)→FitsA o (X.map (·.1))∧asks o (X.map (·.1))=o∧als o (X.map (·.1))=X
 | [],_=>⟨trivial,rfl,rfl⟩
 | x::X,h=>by
   have hx:=h x List.mem_cons_self
   have h1:=ask_known hg x.1.q x.2 hl hp hx.2
   have h2:=asks_known hg hl hp X fun y hy=>h y (List.mem_cons_of_mem _ hy)
   refine⟨⟨⟨hx.1,hl,hp⟩,?_⟩,?_,?_⟩
   · show FitsA (o.ask x.1.q) (X.map (·.1))
     rw [h1.1]
     exact h2.1
   · show asks (o.ask x.1.q) (X.map (·.1))=o
     rw [h1.1]
     exact h2.2.1
   · show(x.1,lb o x.1)::als (o.ask x.1.q) (X.map (·.1))=x::X
     rw [h1.1,h2.2.2]
     unfold lb
     rw [h1.2]
theorem again [Sha.Words] {o:Orc} {l:List Pst} (hg:o.Good) (hp:∀ p∈l,p.Good) (hr:Room o (l.length+1)):FitsA (all o l) l∧asks (all o l) l=all o l∧als (all o l) l=prs o l:=by
 have hf:=fits_room hg hp ⟨by have:=hr.nm;omega,by have:=hr.cl;omega,fun e=>by have:=hr.tp e;omega⟩
 have hr1:=room_all (n:=1) hg hp hr
 have h:=asks_known (all_good hg hf) (by have:=hr1.nm;omega) (fun e=>by have:=hr1.tp e;omega) (prs o l) fun x hx=>⟨?_,prs_in hg hf x hx⟩
 · rw [prs_fst] at h
   exact h
 · have:x.1∈(prs o l).map (·.1):=List.mem_map_of_mem (f:=fun x:Pst × ByteArray=>x.1) hx
   rw [prs_fst] at this
   exact hp _ this
end Pln
namespace Awk
def cat:ByteArray:=⟨#[99,97,116]⟩
def p:Pln.Pst:=⟨cat,0,0,1,258⟩
theorem p_good:p.Good:=⟨by decide,by decide,by decide,by decide,by decide⟩
theorem p_cell {j:Nat} {u:Value} (hu:p.cells[j]? =some u):(#[.string ⟨#[99,97,116]⟩,.int .i64 0,.int .i64 0,.int .i64 1,.int .i64 258]:Array Value)[j]? =some u:=by
 rw [show (#[.string ⟨#[99,97,116]⟩,.int .i64 0,.int .i64 0,.int .i64 1,.int .i64 258]:Array Value)=p.cells.toArray from rfl]
 simpa using hu
def o (key s:ByteArray):Orc:=⟨2,key,⟨s,0,[],[]⟩⟩
theorem o_good {key s:ByteArray} (hk:key.size=32) (hs:s.size=2000):(o key s).Good:=
 ⟨.inr rfl,hk,⟨by show s.size≤_;omega,Nat.zero_le _,Nat.zero_le _,Nat.zero_le _,by simp [o],by simp [o],List.nodup_nil,List.nodup_nil⟩⟩
theorem o_room {key s:ByteArray} (hs:s.size=2000):Pln.Room (o key s) 2:=⟨(show 0+2≤2000 by decide),(show 0+2≤2000 by decide),fun _=>by show 0+56*2≤s.size;omega⟩
theorem fits [Sha.Words] {key s:ByteArray} (hk:key.size=32) (hs:s.size=2000):Pln.Fits (o key s) [p]:=
 Pln.fits_room (o_good hk hs) (by simp [p_good]) ⟨(show 0+1≤2000 by decide),(show 0+1≤2000 by decide),fun _=>by show 0+56*1≤s.size;omega⟩
theorem clash_short {d:Idl} (h1:d.nm.length≤1) (h2:d.cl.length≤1):d.clash=false:=by
 have short:∀ {α:Type} [DecidableEq α] (l:List α),l.length≤1→twice l=false:=by
  intro α _ l hl
  rw [twice_false]
  match l,hl with
  | [],_=>exact List.nodup_nil
  | [x],_=>simp
 unfold Idl.clash
 rw [short _ (by unfold Idl.outs;simpa using h1),short _ (by unfold Idl.told;simpa using h2)]
 rfl
theorem one_clash [Sha.Words] {o:Orc} {p:Pln.Pst} (hg:o.Good) (h:Pln.Fit2 o p) (h1:o.d.nm=[]) (h2:o.d.cl=[]):(Pln.one o p).d.clash=false:=by
 have s1:=Orc.ask_step hg p.q h.1.1.q h.1.2.1 h.1.2.2
 have s2:=Orc.put_step s1.1 (Pln.lb o p) p.tx s1.2.1 p.tx_size (by rw [s1.2.2.2.2.1];exact h.2.1) (by rw [s1.2.2.2.1];exact h.2.2)
 refine clash_short ?_ ?_
 · unfold Pln.one
   rw [s2.2.2.2.2.1]
   rcases s1.2.2.2.2.2 with ⟨h,_⟩ | ⟨h,_⟩ <;> rw [h,h1] <;> simp
 · unfold Pln.one
   rcases s2.2.2.2.2.2 with ⟨h,_⟩ | ⟨h,_⟩ <;> rw [h,s1.2.2.2.2.1,h2] <;> simp
theorem run [Sha.Words] {key s:ByteArray} (hk:key.size=32) (hs:s.size=2000):∃(Q:Orc) (S C:ByteArray),Pln.all (o key s) [p]=Q∧Pln.prs (o key s) [p]=[(p,S)]∧Pln.ces (o key s) [p]=[C]∧Q.Good∧C.size=40∧
 Pln.FitsA Q [p]∧Pln.asks Q [p]=Q∧Pln.als Q [p]=[(p,S)]∧Pln.OpensTo Q S C (Pln.cellB 1 258) 0∧Q.m=2:=by
 have hg:=o_good hk hs
 have hf:=fits hk hs
 have ha:=Pln.again (l:=[p]) hg (by simp [p_good]) (o_room hs)
 have h1:=Pln.one_good hg hf.1
 have hin:=Pln.one_in hg hf.1
 refine⟨_,_,_,rfl,rfl,rfl,Pln.all_good hg hf,h1.2.2.2,ha.1,ha.2.1,ha.2.2,?_,rfl⟩
 exact Pln.opensTo_found (Pln.all_good hg hf) (fun e=>by cases (show(2:Int)=1 from e)) (one_clash hg hf.1 rfl rfl) h1.2.2.1 h1.2.2.2 hin.2.1
theorem tx_eq:(⟨#[1,0,0,1,2]⟩:ByteArray)++zeros 19=Pln.cellB 1 258:=by decide +kernel
theorem meet_one:meetL [[3,1],[1]]=[1]:=by
 refine rise_ext (meetL_rise _) (List.pairwise_singleton _ _) fun n=> ?_
 rw [mem_meetL (by simp)]
 simp only [List.mem_cons,List.not_mem_nil,or_false,forall_eq_or_imp,forall_eq]
 omega
theorem ints_new1 (W:World) (x:Int):IntsAt (W.alloc (.cells #[.int .i64 x] 3)) (.slice (some ⟨W.heap.size,0,none⟩) 1 1) [x]:=by
 refine⟨_,1,rfl,(show 1≤maxLen by decide),fun i q hq=>⟨_,rfl,?_⟩⟩
 match i,hq with
 | 0,hq=>
   cases hq
   exact(Row.new W 3 #[.int .i64 x]).cell 0
theorem ints_new2 (W:World) (x y:Int):IntsAt (W.alloc (.cells #[.int .i64 x,.int .i64 y] 3)) (.slice (some ⟨W.heap.size,0,none⟩) 2 2) [x,y]:=by
 refine⟨_,2,rfl,(show 2≤maxLen by decide),fun i q hq=>⟨_,rfl,?_⟩⟩
 match i,hq with
 | 0,hq=>
   cases hq
   exact(Row.new W 3 #[.int .i64 x,.int .i64 y]).cell 0
 | 1,hq=>
   cases hq
   exact(Row.new W 3 #[.int .i64 x,.int .i64 y]).cell 1
theorem lists_new (W:World):ListsAt (((W.alloc (.cells #[.int .i64 3,.int .i64 1] 3)).alloc (.cells #[.int .i64 1] 3)).alloc (.cells #[.slice (some ⟨W.heap.size,0,none⟩) 2 2,.slice (some ⟨W.heap.size+1,0,none⟩) 1 1] 60)) (.slice (some ⟨W.heap.size+2,0,none⟩) 2 2) [[3,1],[1]]:=by
 obtain⟨A,hA⟩:∃ A,W.alloc (.cells #[.int .i64 3,.int .i64 1] 3)=A:=⟨_,rfl⟩
 obtain⟨B,hB⟩:∃ B,A.alloc (.cells #[.int .i64 1] 3)=B:=⟨_,rfl⟩
 have h1:IntsAt A (.slice (some ⟨W.heap.size,0,none⟩) 2 2) [3,1]:=by rw [← hA];exact ints_new2 W 3 1
 have hz:A.heap.size=W.heap.size+1:=by rw [← hA];simp
 have hz2:B.heap.size=W.heap.size+2:=by rw [← hB,World.size_alloc,hz]
 have h2:IntsAt B (.slice (some ⟨W.heap.size+1,0,none⟩) 1 1) [1]:=by
  have:=ints_new1 A 1
  rw [hB,hz] at this
  exact this
 have h1:IntsAt B (.slice (some ⟨W.heap.size,0,none⟩) 2 2) [3,1]:=by
  rw [← hB]
  exact h1.below ((Below.refl _ A).alloc (Nat.le_refl _) _)
 rw [hA,hB]
 have hb:Below B.heap.size B (B.alloc (.cells #[.slice (some ⟨W.heap.size,0,none⟩) 2 2,.slice (some ⟨W.heap.size+1,0,none⟩) 1 1] 60)):=(Below.refl _ B).alloc (Nat.le_refl _) _
 have hr:=Row.new B 60 #[.slice (some ⟨W.heap.size,0,none⟩) 2 2,.slice (some ⟨W.heap.size+1,0,none⟩) 1 1]
 rw [hz2] at hr
 refine⟨_,2,rfl,by decide,fun i q hq=> ?_⟩
 match i,hq with
 | 0,hq=>
   cases hq
   exact⟨_,_,rfl,hr.cell 0,h1.below hb⟩
 | 1,hq=>
   cases hq
   exact⟨_,_,rfl,hr.cell 1,h2.below hb⟩
end Awk
theorem awake19_any [Sha.Words] (w:World) (hR:Sha.RoundIn w):Calls Tryz.prog 12 #[] w fun e w'=>e= .returned (.bool true)∧Below w.heap.size w w':=by
 obtain⟨h0,hh0⟩:∃ h0,w.heap.size=h0:=⟨_,rfl⟩
 have hT:∀ W,Calls Tryz.prog 16 #[.agg #[.string ⟨#[99,97,116]⟩,.int .i64 0,.int .i64 0,.int .i64 1,.int .i64 258]] W fun e w'=>e= .returned (.tuple #[.string (Pln.cellB 1 258),.int .i64 0])∧Below W.heap.size W w':=fun W=>planText_any 1 258 (by decide) (by decide) _ 0 0 W
 have hRd:∀ W,Calls Tryz.prog 18 #[.string (Pln.cellB 1 258)] W fun e w'=>e= .returned (.tuple #[.int .i64 1,.int .i64 258,.bool true])∧Below W.heap.size W w':=fun W=>planRead_any 1 258 (by decide) (by decide) W
 have htx:=Awk.tx_eq
 have hrun0:=fun key s=>@Awk.run _ key s
 obtain⟨tx,htxe⟩:∃ tx,Pln.cellB 1 258=tx:=⟨_,rfl⟩
 rw [htxe] at hT hRd htx
 have Htxe:=Lib.hid htxe
 clear htxe
 have p1:Row (w.alloc (.cells #[.string ⟨#[99,97,116]⟩,.int .i64 0,.int .i64 0,.int .i64 1,.int .i64 258] 27)) h0 27 #[.string ⟨#[99,97,116]⟩,.int .i64 0,.int .i64 0,.int .i64 1,.int .i64 258]:=by
  have h:=Row.new w 27 #[.string ⟨#[99,97,116]⟩,.int .i64 0,.int .i64 0,.int .i64 1,.int .i64 258]
  rw [hh0] at h
  exact h
 have hb1:Below w.heap.size w (w.alloc (.cells #[.string ⟨#[99,97,116]⟩,.int .i64 0,.int .i64 0,.int .i64 1,.int .i64 258] 27)):=(Below.refl _ w).alloc (Nat.le_refl _) _
 have HR:=Lib.hid hR
 have HT:=Lib.hid hT
 have HRd:=Lib.hid hRd
 have Htx:=Lib.hid htx
 have P1:=Lib.hid p1
 have Hb1:=Lib.hid hb1
 have Hrun0:=Lib.hid hrun0
 clear hR hT hRd htx p1 hb1 hrun0
 go_enter Tryz.func12,Tryz.ntmps12
 go_wp2_with fail
 refine(HT.out _).mono ?_
 rintro e w2 ⟨rfl,hb2⟩
 have P2:=Lib.hid (P1.out.below hb2 P1.out.lt)
 have Hb2:=Lib.hid (below_seq Hb1.out hb2)
 clear hb2 P1 Hb1 HT
 go_wp2_with fail
 refine(HRd.out _).mono ?_
 rintro e w3 ⟨rfl,hb3⟩
 have P3:=Lib.hid (P2.out.below hb3 P2.out.lt)
 have Hb3:=Lib.hid (below_seq Hb2.out hb3)
 clear hb3 P2 Hb2 HRd
 go_wp2_with fail
 have hI:IntsIn (.slice (some ⟨w3.heap.size,0,none⟩) 3 3) (w3.alloc (.cells #[.int .i64 1,.int .i64 2,.int .i64 3] 3)):=by
  refine .inr ⟨_,3,3,fun i=>(i:Int)+1,rfl,Nat.le_refl _,by decide,fun i hi=>⟨?_,show _≤(i:Int)+1 by omega,show(i:Int)+1≤_ by omega⟩⟩
  rw [Addr.add_mid,Nat.zero_add,(Row.new w3 3 #[.int .i64 1,.int .i64 2,.int .i64 3]).cell i]
  match i,hi with
  | 0,_=>rfl
  | 1,_=>rfl
  | 2,_=>rfl
 refine(Draws_any _ false _ hI).mono ?_
 rintro e w4 ⟨s,hs,rfl,hb4⟩
 have hb34:Below w3.heap.size w3 w4:=((Below.refl _ w3).alloc (Nat.le_refl _) _).trans (hb4.mono (by simp))
 have P4:=Lib.hid (P3.out.below hb34 P3.out.lt)
 have Hb4:=Lib.hid (below_seq Hb3.out hb34)
 have Hs:=Lib.hid hs
 clear hb4 hb34 P3 Hb3 hI hs
 go_wp2_with fail
 refine(Fresh_any 2 1 s 0 (by have:=Hs.out;omega) (Nat.zero_le _) w4).mono ?_
 rintro e w5 ⟨rfl,hb5⟩
 have P5:=P4.out.below hb5 P4.out.lt
 have hb05:=below_seq Hb4.out hb5
 obtain⟨key,hkey⟩:∃ key,strOf (List.replicate 32 1)=key:=⟨_,rfl⟩
 have hkz:key.size=32:=by rw [← hkey,strOf_size,List.length_replicate]
 rw [hkey]
 obtain⟨Q,S,C,hall,hprs,hces,hQg,hCz,hfa,has,hals,hop,hQm⟩:=Hrun0.out key s hkz Hs.out
 have hput:∀ W v,Sha.RoundIn W→Pln.PostsAt W v [Awk.p]→Calls Tryz.prog 20 #[.agg #[.int .i64 2,.string key,.string s,.int .i64 0,.slice none 0 0,.slice none 0 0,.bool false],v] W fun e w'=>∃ lv cv nv' cv',e= .returned (.tuple #[.agg #[.int .i64 1,lv,cv],Q.agg nv' cv',.int .i64 0])∧StrAt w' W.heap.size lv [S]∧StrAt w' W.heap.size cv [C]∧NmAt w' 0 nv' Q.d.nm∧ClAt w' 0 cv' Q.d.cl∧Below W.heap.size W w':=fun W v h1 h2=>by
  have h:=put_any (Awk.o key s) (Awk.o_good hkz Hs.out) (.slice none 0 0) (.slice none 0 0) [Awk.p] v (by decide) (Awk.fits hkz Hs.out) W h1 (World.ownsRow_nil _ _ _ 2) (World.ownsRow_nil _ _ _ 3) h2
  unfold Pln.PutRes at h
  rw [hall,hprs,hces] at h
  exact h
 have hlab:∀ W v nv cv,Sha.RoundIn W→NmAt W 0 nv Q.d.nm→ClAt W 0 cv Q.d.cl→Pln.PostsAt W v [Awk.p]→Calls Tryz.prog 24 #[Q.agg nv cv,v] W fun e w'=>∃ lv nv' cv',e= .returned (.tuple #[lv,Q.agg nv' cv',.int .i64 0])∧StrAt w' W.heap.size lv [S]∧NmAt w' 0 nv' Q.d.nm∧ClAt w' 0 cv' Q.d.cl∧Below W.heap.size W w':=fun W v nv cv h1 h2 h3 h4=>by
  have h:=labels_any Q hQg nv cv [Awk.p] v (by decide) hfa W h1 h2 h3 h4
  unfold Pln.LbsRes at h
  rw [has,hals] at h
  exact h.mono fun e w' ⟨lv,nv',cv',he,hs,h5,h6,hb⟩=>⟨lv,nv',cv',he,hs,h5,h6,hb⟩
 have hfo1:∀ W v1 v2 nv cv,Sha.RoundIn W→NmAt W 0 nv Q.d.nm→ClAt W 0 cv Q.d.cl→StrIn W v1 [S]→StrIn W v2 [C]→Calls Tryz.prog 27 #[Q.agg nv cv,v1,v2] W fun e w'=>∃ v,e= .returned (.tuple #[v,.int .i64 0])∧IntsAt w' v [258]∧Below W.heap.size W w':=fun W v1 v2 nv cv h1 h2 h3 h4 h5=>by
  refine(fold_any Q hQg nv cv [S] [C] v1 v2 [(1,258)] 0 W h1 h2 h3 h4 h5 rfl (show 1≤100000 by decide) (Nat.le_refl _) (fun i k id h=> ?_) (fun h=>absurd h (show ¬ 1<1 by decide))).mono ?_
  · match i,h with
    | 0,h=>
      simp only [List.getElem?_cons_zero,Option.some.injEq,Prod.mk.injEq] at h
      obtain⟨rfl,rfl⟩:=h
      exact⟨by decide,by decide,S,C,rfl,rfl,by omega,hop⟩
  · rintro e w' ⟨⟨v,⟨_,h6,h7⟩ | ⟨h6,_⟩⟩,hb⟩
    · rw [show Pln.foldS [(1,258)]=[258] by decide +kernel] at h7
      exact⟨v,h6,h7,hb⟩
    · exact absurd h6 (show ¬ 1<1 by decide)
 have hfo2:∀ W v1 v2 nv cv,Sha.RoundIn W→NmAt W 0 nv Q.d.nm→ClAt W 0 cv Q.d.cl→StrIn W v1 [S]→StrIn W v2 [⟨#[]⟩]→Calls Tryz.prog 27 #[Q.agg nv cv,v1,v2] W fun e w'=>e= .returned (.tuple #[.slice none 0 0,.int .i64 30])∧Below W.heap.size W w':=fun W v1 v2 nv cv h1 h2 h3 h4 h5=>by
  refine(fold_any Q hQg nv cv [S] [⟨#[]⟩] v1 v2 [] 30 W h1 h2 h3 h4 h5 rfl (by decide) (by decide) (fun i k id h=>by simp at h) (fun _=>⟨S,⟨#[]⟩,rfl,rfl,.inl ⟨rfl,rfl⟩⟩)).mono ?_
  rintro e w' ⟨⟨v,⟨h6,_⟩ | ⟨_,h6⟩⟩,hb⟩
  · exact absurd h6 (by decide)
  · exact⟨h6,hb⟩
 have Hput:=Lib.hid hput
 have Hlab:=Lib.hid hlab
 have Hfo1:=Lib.hid hfo1
 have Hfo2:=Lib.hid hfo2
 have z0:=P5.cell 0
 change World.cell? _ _=some _ at z0
 have z1:=P5.cell 1
 change World.cell? _ _=some _ at z1
 have z2:=P5.cell 2
 change World.cell? _ _=some _ at z2
 have z3:=P5.cell 3
 change World.cell? _ _=some _ at z3
 have z4:=P5.cell 4
 change World.cell? _ _=some _ at z4
 have hne5:h0≠w5.heap.size:=by have:=P5.lt;omega
 have hlt5:=P5.lt
 have P5:=Lib.hid P5
 have Hb5:=Lib.hid hb05
 clear hput hlab hfo1 hfo2 hb5 hb05 P4 Hb4 hkz hall hprs hces hQg hCz hfa has hals hop hkey hQm Hrun0 Hs
 unfold Orc.vals
 go_wp2_with fail
 have hb56:Below w5.heap.size w5 ((w5.alloc (.cells #[.int .i64 2,.string key,.string s,.int .i64 0,.slice none 0 0,.slice none 0 0,.bool false] 34)).alloc (.cells #[.string ⟨#[99,97,116]⟩,.int .i64 0,.int .i64 0,.int .i64 1,.int .i64 258] 27)):=((Below.refl _ w5).alloc (Nat.le_refl _) _).alloc (by simp) _
 have hp6:Pln.PostsAt ((w5.alloc (.cells #[.int .i64 2,.string key,.string s,.int .i64 0,.slice none 0 0,.slice none 0 0,.bool false] 34)).alloc (.cells #[.string ⟨#[99,97,116]⟩,.int .i64 0,.int .i64 0,.int .i64 1,.int .i64 258] 27)) (.slice (some ⟨w5.heap.size+1,0,none⟩) 1 1) [Awk.p]:=by
  refine⟨_,1,rfl,by decide,fun i q hq=> ?_⟩
  match i,hq with
  | 0,hq=>
    cases hq
    refine⟨_,0,rfl,fun j u hu=> ?_⟩
    have h:=(Row.new (w5.alloc (.cells #[.int .i64 2,.string key,.string s,.int .i64 0,.slice none 0 0,.slice none 0 0,.bool false] 34)) 27 #[.string ⟨#[99,97,116]⟩,.int .i64 0,.int .i64 0,.int .i64 1,.int .i64 258]).cell j
    rw [World.size_alloc] at h
    rw [show 0+0*5+j=j by omega,h]
    exact Awk.p_cell hu
 refine(Hput.out _ _ (HR.out.below (below_seq Hb5.out hb56)) hp6).mono ?_
 rintro e w6 ⟨lv,cv,nv,cv',rfl,hlv,hcv,hN,hC,hb6⟩
 obtain⟨la,lk,rfl⟩:=slice_of hlv
 obtain⟨ca,ck,rfl⟩:=slice_of hcv
 obtain⟨na,nk,rfl⟩:=slice_of hN
 obtain⟨oa,ok,rfl⟩:=slice_of hC
 have hb06:=below_seq Hb5.out (below_seq hb56 hb6)
 have P6:=P5.out.below (below_seq hb56 hb6) P5.out.lt
 clear hb56 hb6 hp6 Hput P5 Hb5 hne5 hlt5 z0 z1 z2 z3 z4
 have z0:=P6.cell 0
 change World.cell? _ _=some _ at z0
 have z1:=P6.cell 1
 change World.cell? _ _=some _ at z1
 have z2:=P6.cell 2
 change World.cell? _ _=some _ at z2
 have z3:=P6.cell 3
 change World.cell? _ _=some _ at z3
 have z4:=P6.cell 4
 change World.cell? _ _=some _ at z4
 have hlt6:=P6.lt
 obtain⟨g8,hg8⟩:∃ g8,w6.heap.size=g8:=⟨_,rfl⟩
 rw [hg8] at hlt6
 have hne6:h0≠g8:=by omega
 have hne7:h0≠g8+1:=by omega
 have hb67:Below w6.heap.size w6 (((w6.alloc (.cells #[.int .i64 1,.slice la 1 lk,.slice ca 1 ck] 49)).alloc (.cells #[.int .i64 Q.m,.string Q.key,.string Q.d.tb,.int .i64 (Q.d.pos:Int),.slice na Q.d.nm.length nk,.slice oa Q.d.cl.length ok,.bool Q.d.clash] 34)).alloc (.cells #[.string ⟨#[99,97,116]⟩,.int .i64 0,.int .i64 0,.int .i64 1,.int .i64 258] 27)):=(((Below.refl _ w6).alloc (Nat.le_refl _) _).alloc (by simp) _).alloc (by simp;omega) _
 have r8:Row (((w6.alloc (.cells #[.int .i64 1,.slice la 1 lk,.slice ca 1 ck] 49)).alloc (.cells #[.int .i64 Q.m,.string Q.key,.string Q.d.tb,.int .i64 (Q.d.pos:Int),.slice na Q.d.nm.length nk,.slice oa Q.d.cl.length ok,.bool Q.d.clash] 34)).alloc (.cells #[.string ⟨#[99,97,116]⟩,.int .i64 0,.int .i64 0,.int .i64 1,.int .i64 258] 27)) g8 49 #[.int .i64 1,.slice la 1 lk,.slice ca 1 ck]:=by
  have h:=Row.new w6 49 #[.int .i64 1,.slice la 1 lk,.slice ca 1 ck]
  rw [hg8] at h
  have h:=h.alloc (.cells #[.int .i64 Q.m,.string Q.key,.string Q.d.tb,.int .i64 (Q.d.pos:Int),.slice na Q.d.nm.length nk,.slice oa Q.d.cl.length ok,.bool Q.d.clash] 34)
  exact h.alloc (.cells #[.string ⟨#[99,97,116]⟩,.int .i64 0,.int .i64 0,.int .i64 1,.int .i64 258] 27)
 have r9:Row (((w6.alloc (.cells #[.int .i64 1,.slice la 1 lk,.slice ca 1 ck] 49)).alloc (.cells #[.int .i64 Q.m,.string Q.key,.string Q.d.tb,.int .i64 (Q.d.pos:Int),.slice na Q.d.nm.length nk,.slice oa Q.d.cl.length ok,.bool Q.d.clash] 34)).alloc (.cells #[.string ⟨#[99,97,116]⟩,.int .i64 0,.int .i64 0,.int .i64 1,.int .i64 258] 27)) (g8+1) 34 #[.int .i64 Q.m,.string Q.key,.string Q.d.tb,.int .i64 (Q.d.pos:Int),.slice na Q.d.nm.length nk,.slice oa Q.d.cl.length ok,.bool Q.d.clash]:=by
  have h:=Row.new (w6.alloc (.cells #[.int .i64 1,.slice la 1 lk,.slice ca 1 ck] 49)) 34 #[.int .i64 Q.m,.string Q.key,.string Q.d.tb,.int .i64 (Q.d.pos:Int),.slice na Q.d.nm.length nk,.slice oa Q.d.cl.length ok,.bool Q.d.clash]
  rw [World.size_alloc,hg8] at h
  exact h.alloc (.cells #[.string ⟨#[99,97,116]⟩,.int .i64 0,.int .i64 0,.int .i64 1,.int .i64 258] 27)
 have hp7:Pln.PostsAt (((w6.alloc (.cells #[.int .i64 1,.slice la 1 lk,.slice ca 1 ck] 49)).alloc (.cells #[.int .i64 Q.m,.string Q.key,.string Q.d.tb,.int .i64 (Q.d.pos:Int),.slice na Q.d.nm.length nk,.slice oa Q.d.cl.length ok,.bool Q.d.clash] 34)).alloc (.cells #[.string ⟨#[99,97,116]⟩,.int .i64 0,.int .i64 0,.int .i64 1,.int .i64 258] 27)) (.slice (some ⟨g8+2,0,none⟩) 1 1) [Awk.p]:=by
  refine⟨_,1,rfl,by decide,fun i q hq=> ?_⟩
  match i,hq with
  | 0,hq=>
    cases hq
    refine⟨_,0,rfl,fun j u hu=> ?_⟩
    have h:=(Row.new ((w6.alloc (.cells #[.int .i64 1,.slice la 1 lk,.slice ca 1 ck] 49)).alloc (.cells #[.int .i64 Q.m,.string Q.key,.string Q.d.tb,.int .i64 (Q.d.pos:Int),.slice na Q.d.nm.length nk,.slice oa Q.d.cl.length ok,.bool Q.d.clash] 34)) 27 #[.string ⟨#[99,97,116]⟩,.int .i64 0,.int .i64 0,.int .i64 1,.int .i64 258]).cell j
    rw [World.size_alloc,World.size_alloc,hg8] at h
    rw [show 0+0*5+j=j by omega,h]
    exact Awk.p_cell hu
 have hl7:=owns_below hlv hb67
 have hc7:=owns_below hcv hb67
 have hN7:=owns_below hN hb67
 have hC7:=owns_below hC hb67
 have hb07:=below_seq hb06 hb67
 have HP6:=Lib.hid P6
 have Hr8:=Lib.hid r8
 have Hr9:=Lib.hid r9
 have Hhp7:=Lib.hid hp7
 have Hhl7:=Lib.hid hl7
 have Hhc7:=Lib.hid hc7
 have HhN7:=Lib.hid hN7
 have HhC7:=Lib.hid hC7
 have Hhb07:=Lib.hid hb07
 clear P6 r8 r9 hp7 hl7 hc7 hN7 hC7 hb07 hlv hcv hN hC hb06 hb67
 unfold Orc.agg Orc.vals at Hlab Hfo1 Hfo2 ⊢
 go_wp2_with fail
 refine(Hlab.out _ _ _ _ (HR.out.below Hhb07.out) HhN7.out HhC7.out Hhp7.out).mono ?_
 rintro e w7 ⟨lv2,nv2,cv2,rfl,hs7,hN2,hC2,hb7⟩
 obtain⟨la2,lk2,rfl⟩:=slice_of hs7
 obtain⟨na2,nk2,rfl⟩:=slice_of hN2
 obtain⟨oa2,ok2,rfl⟩:=slice_of hC2
 obtain⟨g12,hg12⟩:∃ g12,w7.heap.size=g12:=⟨_,rfl⟩
 have hb77:Below w7.heap.size w7 (w7.alloc (.cells #[.int .i64 Q.m,.string Q.key,.string Q.d.tb,.int .i64 (Q.d.pos:Int),.slice na2 Q.d.nm.length nk2,.slice oa2 Q.d.cl.length ok2,.bool Q.d.clash] 34)):=(Below.refl _ w7).alloc (Nat.le_refl _) _
 have r8:=Hr8.out.below hb7 Hr8.out.lt
 have r9:=Hr9.out.below hb7 Hr9.out.lt
 have y0:=r8.cell 0
 change World.cell? _ _=some _ at y0
 have y1:=r8.cell 1
 change World.cell? _ _=some _ at y1
 have y2:=r8.cell 2
 change World.cell? _ _=some _ at y2
 have x0:=r9.cell 0
 change World.cell? _ _=some _ at x0
 have x1:=r9.cell 1
 change World.cell? _ _=some _ at x1
 have x2:=r9.cell 2
 change World.cell? _ _=some _ at x2
 have x3:=r9.cell 3
 change World.cell? _ _=some _ at x3
 have x4:=r9.cell 4
 change World.cell? _ _=some _ at x4
 have x5:=r9.cell 5
 change World.cell? _ _=some _ at x5
 have x6:=r9.cell 6
 change World.cell? _ _=some _ at x6
 have hlt8:=r8.lt
 have hlt9:=r9.lt
 rw [hg12] at hlt8 hlt9
 have hne8:g8≠g12:=by omega
 have hne9:g8+1≠g12:=by omega
 have hbq:=below_seq hb7 hb77
 have hl8:=Lib.hid (owns_below Hhl7.out hbq)
 have hc8:=Lib.hid (owns_below Hhc7.out hbq)
 have hN8:=Lib.hid (owns_below HhN7.out hbq)
 have hC8:=Lib.hid (owns_below HhC7.out hbq)
 have hs8:=Lib.hid (owns_below hs7 hb77)
 have Hb08:=Lib.hid (below_seq Hhb07.out hbq)
 have R8:=Lib.hid (r8.alloc (.cells #[.int .i64 Q.m,.string Q.key,.string Q.d.tb,.int .i64 (Q.d.pos:Int),.slice na2 Q.d.nm.length nk2,.slice oa2 Q.d.cl.length ok2,.bool Q.d.clash] 34))
 have R9:=Lib.hid (r9.alloc (.cells #[.int .i64 Q.m,.string Q.key,.string Q.d.tb,.int .i64 (Q.d.pos:Int),.slice na2 Q.d.nm.length nk2,.slice oa2 Q.d.cl.length ok2,.bool Q.d.clash] 34))
 clear hs7 hN2 hC2 hb7 hb77 hbq r8 r9 Hr8 Hr9 Hhl7 Hhc7 HhN7 HhC7 Hhb07 Hhp7 HP6 Hlab hlt6 hne6 hne7 z0 z1 z2 z3 z4
 go_wp2_with fail
 refine(Hfo1.out _ _ _ _ _ (HR.out.below Hb08.out) hN8.out hC8.out (StrAt.isIn hl8.out) (StrAt.isIn hc8.out)).mono ?_
 rintro e w8 ⟨vi,rfl,hI8,hb8⟩
 obtain⟨ai,ki,rfl,hI8l,hI8c⟩:=hI8
 have hI8:IntsAt w8 (.slice ai [258].length ki) [258]:=⟨ai,ki,rfl,hI8l,hI8c⟩
 have r8:=R8.out.below hb8 R8.out.lt
 have r9:=R9.out.below hb8 R9.out.lt
 have yy0:=r8.cell 0
 change World.cell? _ _=some _ at yy0
 have yy1:=r8.cell 1
 change World.cell? _ _=some _ at yy1
 have yy2:=r8.cell 2
 change World.cell? _ _=some _ at yy2
 have xx0:=r9.cell 0
 change World.cell? _ _=some _ at xx0
 have xx1:=r9.cell 1
 change World.cell? _ _=some _ at xx1
 have xx2:=r9.cell 2
 change World.cell? _ _=some _ at xx2
 have xx3:=r9.cell 3
 change World.cell? _ _=some _ at xx3
 have xx4:=r9.cell 4
 change World.cell? _ _=some _ at xx4
 have xx5:=r9.cell 5
 change World.cell? _ _=some _ at xx5
 have xx6:=r9.cell 6
 change World.cell? _ _=some _ at xx6
 obtain⟨g13,hg13⟩:∃ g13,w8.heap.size=g13:=⟨_,rfl⟩
 have hlt10:=r8.lt
 have hlt11:=r9.lt
 rw [hg13] at hlt10 hlt11
 have hne10:g8≠g13:=by omega
 have hne11:g8+1≠g13:=by omega
 have hb88:Below w8.heap.size w8 (w8.alloc (.cells #[.string ⟨#[]⟩] 9)):=(Below.refl _ w8).alloc (Nat.le_refl _) _
 have hbq:=below_seq hb8 hb88
 have hl9:=Lib.hid (owns_below hl8.out hbq)
 have hc9:=Lib.hid (owns_below hc8.out hbq)
 have hN9:=Lib.hid (owns_below hN8.out hbq)
 have hC9:=Lib.hid (owns_below hC8.out hbq)
 have hs9:=Lib.hid (owns_below hs8.out hbq)
 have hI9:=Lib.hid (hI8.below hb88)
 have Hb09:=Lib.hid (below_seq Hb08.out hbq)
 have RR8:=Lib.hid (r8.alloc (.cells #[.string ⟨#[]⟩] 9))
 have he9:StrIn (w8.alloc (.cells #[.string ⟨#[]⟩] 9)) (.slice (some ⟨g13,0,none⟩) 1 1) [⟨#[]⟩]:=by
  refine⟨_,1,rfl,by decide,fun i q hq=>⟨_,rfl,?_⟩⟩
  match i,hq with
  | 0,hq=>
    cases hq
    have h:=(Row.new w8 9 #[.string ⟨#[]⟩]).cell 0
    rw [hg13] at h
    exact h
 have He9:=Lib.hid he9
 clear he9 hI8 hI8l hI8c hb8 hb88 hbq r8 r9 R8 R9 hl8 hc8 hN8 hC8 hs8 Hb08 Hfo1 hlt8 hlt9 hne8 hne9 y0 y1 y2 x0 x1 x2 x3 x4 x5 x6
 go_wp2_with fail
 refine(Hfo2.out _ _ _ _ _ (HR.out.below Hb09.out) hN9.out hC9.out (StrAt.isIn hl9.out) He9.out).mono ?_
 rintro e w9 ⟨rfl,hb9⟩
 have r8:=RR8.out.below hb9 RR8.out.lt
 have v0:=r8.cell 0
 change World.cell? _ _=some _ at v0
 have v1:=r8.cell 1
 change World.cell? _ _=some _ at v1
 have v2:=r8.cell 2
 change World.cell? _ _=some _ at v2
 have hl10:=Lib.hid (owns_below hl9.out hb9)
 have hs10:=Lib.hid (owns_below hs9.out hb9)
 have hI10:=Lib.hid (hI9.out.below hb9)
 have Hb10:=Lib.hid (below_seq Hb09.out hb9)
 have R8:=Lib.hid r8
 clear hb9 r8 RR8 hl9 hc9 hN9 hC9 hs9 hI9 Hb09 Hfo2 He9 hlt10 hlt11 hne10 hne11 yy0 yy1 yy2 xx0 xx1 xx2 xx3 xx4 xx5 xx6
 go_wp2_with fail
 refine(planParts_any 3 _ [S] _ (show 1≤100000 by decide) (ownsRow_weak hl10.out (Nat.zero_le _))).mono ?_
 rintro e wA ⟨u,lvs,rfl,hu,hlvs,hbA⟩
 have hn1:(Pln.chs [S].length).length=1:=Pln.chs_length 1
 have hln:=hlvs.n
 rw [hn1] at hu hln
 obtain⟨lv0,rfl⟩:∃ x,lvs=[x]:=by
  match lvs,hln with
  | [x],_=>exact⟨x,rfl⟩
 rcases ownsRow_cases hu (by decide) with ⟨_,h1,_⟩ | ⟨gu,cu,rfl,_,hgu,_,huc⟩
 · cases h1
 have c0:wA.cell? ⟨gu,0,none⟩=some (.int .i64 3):=huc 0 _ rfl
 have hmk:∀ W,(Instr.makeSlice 42 (.int .i64 19) (.int .i64 19)).run Tryz.prog W= .ok (.slice (some ⟨W.heap.size,0,none⟩) 19 19) (W.alloc (.cells (zeroCells 19) 5)):=fun W=>make_zero 19 (by decide) W
 have hcv:(convert 42 9 (.slice (some ⟨wA.heap.size,0,none⟩) 19 19)).run Tryz.prog (wA.alloc (.cells (zeroCells 19) 5))= .ok (.string (zeros 19)) (wA.alloc (.cells (zeroCells 19) 5)):=conv_zero _ _ _ (Row.new wA _ _)
 have hbB:Below wA.heap.size wA (wA.alloc (.cells (zeroCells 19) 5)):=(Below.refl _ wA).alloc (Nat.le_refl _) _
 have hbq:=below_seq hbA hbB
 have r8:=R8.out.below hbq R8.out.lt
 have v0:=r8.cell 0
 change World.cell? _ _=some _ at v0
 have v1:=r8.cell 1
 change World.cell? _ _=some _ at v1
 have v2:=r8.cell 2
 change World.cell? _ _=some _ at v2
 have hlB:=Lib.hid (owns_below hl10.out hbq)
 have hsB:=Lib.hid (owns_below hs10.out hbq)
 have hIB:=Lib.hid (hI10.out.below hbq)
 have HbB:=Lib.hid (below_seq Hb10.out hbq)
 have c1:=cell_below hbB c0
 have hTx:∀ W v u,StrIn W v [S]→StrIn W u [S]→Calls Tryz.prog 26 #[v,u] W fun e w'=>e= .returned (.bool true)∧Below W.heap.size W w':=fun W v u h1 h2=>(refTexts_any v u [S] [S] W h1 h2).mono fun e w' ⟨he,q,hq⟩=>⟨by rw [he,decide_eq_true rfl],hq ▸ Below.trans_drewN (Below.refl _ W) q⟩
 have hIn:∀ W v u l,IntsAt W v l→IntsAt W u l→Calls Tryz.prog 29 #[v,u] W fun e w'=>e= .returned (.bool true)∧Below W.heap.size W w':=fun W v u l h1 h2=>(refInts_any v u l l W h1 h2).mono fun e w' ⟨he,q,hq⟩=>⟨by rw [he,decide_eq_true rfl],hq ▸ Below.trans_drewN (Below.refl _ W) q⟩
 have hMt:∀ W v,ListsAt W v [[3,1],[1]]→Calls Tryz.prog 32 #[v] W fun e w'=>∃ v',e= .returned v'∧IntsAt w' v' [1]∧Below W.heap.size W w':=fun W v h=>by
  refine(meet_any v [[3,1],[1]] W h (by decide)).mono ?_
  rintro e w' ⟨⟨v',h1,h2⟩,hb⟩
  rw [Awk.meet_one] at h2
  exact⟨v',h1,h2,hb⟩
 have HTx:=Lib.hid hTx
 have HIn:=Lib.hid hIn
 have HMt:=Lib.hid hMt
 have htx:=Htx.out
 clear hTx hIn hMt hbB hbq r8 hu hln hlvs huc hbA R8 hl10 hs10 hI10 Hb10 hn1
 go_wp2_with fail
 refine(HTx.out _ _ _ (StrAt.isIn hsB.out) (StrAt.isIn hlB.out)).mono ?_
 rintro e wC ⟨rfl,hbC⟩
 have hbC2:Below wC.heap.size wC (wC.alloc (.cells #[.int .i64 258] 3)):=(Below.refl _ wC).alloc (Nat.le_refl _) _
 have hIC:=Lib.hid (hIB.out.below (below_seq hbC hbC2))
 have HbC:=Lib.hid (below_seq HbB.out (below_seq hbC hbC2))
 have c2:=Lib.hid (cell_below (below_seq hbC hbC2) c1)
 clear hbC hbC2 hlB hsB hIB HbB HTx c0 c1 hmk hcv htx v0 v1 v2
 go_wp2_with fail
 refine(HIn.out _ _ _ [258] hIC.out (Awk.ints_new1 _ _)).mono ?_
 rintro e wD ⟨rfl,hbD⟩
 have HbD:=Lib.hid (below_seq HbC.out hbD)
 have c3:=cell_below hbD c2.out
 have hl:ListsAt _ _ _:=Awk.lists_new wD
 have Hl:=Lib.hid hl
 clear hbD HbC c2 hIC hl
 go_wp2_with fail
 refine(HMt.out _ _ Hl.out).mono ?_
 rintro e wE ⟨vE,rfl,hE,hbE⟩
 obtain⟨aE,kE,rfl,hE1,hE2⟩:=hE
 have hE:IntsAt wE (.slice aE [(1:Int)].length kE) [1]:=⟨aE,kE,rfl,hE1,hE2⟩
 have hbE1:Below wD.heap.size wD wE:=((((Below.refl _ wD).alloc (Nat.le_refl _) _).alloc (by simp) _).alloc (by simp;omega) _).trans (hbE.mono (by simp;omega))
 have hbE2:Below wE.heap.size wE (wE.alloc (.cells #[.int .i64 1] 3)):=(Below.refl _ wE).alloc (Nat.le_refl _) _
 have hEE:=Lib.hid (hE.below hbE2)
 have HbE:=Lib.hid (below_seq HbD.out (below_seq hbE1 hbE2))
 clear hE hE1 hE2 hbE hbE1 hbE2 c3 HbD HMt Hl
 go_wp2_with fail
 refine(HIn.out _ _ _ [1] hEE.out (Awk.ints_new1 _ _)).mono ?_
 rintro e wF ⟨rfl,hbF⟩
 have HbF:=Lib.hid (below_seq HbE.out hbF)
 clear hbF HbE hEE HIn
 go_wp2
 go_ret
 exact⟨rfl,HbF.out⟩
theorem pick19_any (c n:Int) (hc: -9223372036854775808≤c∧c≤9223372036854775807) (hn:0<n∧n<4611686018427387904) (w:World):
 Calls Tryz.prog 15 #[.int .i64 c,.int .i64 n] w fun e w'=>e= .returned (.int .i64 (pickOf c n))∧w'=w:=by
 have hn0:¬ (n=0):=by omega
 go_enter Tryz.func15,Tryz.ntmps15
 by_cases h:c<0
 · go_wp2
   go_ret
   refine⟨?_,rfl⟩
   show Ending.returned (Value.int .i64 (-((c+1).tmod n)))=_
   rw [pickOf,if_pos h,Int.neg_tmod]
 · go_wp2
   go_ret
   refine⟨?_,rfl⟩
   show Ending.returned (Value.int .i64 (c%n))=_
   rw [pickOf,if_neg (by omega),Int.tmod_eq_emod_of_nonneg (by omega)]
end Go.Proofs.YtpnbkfboneabaaaGreat
