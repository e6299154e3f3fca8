import Derived.Test.YtpnbkfboneabaaaGreatMT
import Derived.Maps.OwnIn
import Derived.Maps.OwnSet
import Derived.Test.YtpnbkfboneabaaaGreatPT
import Derived.Test.YtpnbkfboneabaaaGreatDR
import Derived.Test.YtpnbkfboneabaaaGreatRG
import Derived.Test.YtpnbkfboneabaaaGreatPL
import Derived.Test.YtpnbkfboneabaaaGreatPU
set_option maxRecDepth 100000
set_option maxHeartbeats 4000000
namespace Go.Proofs.YtpnbkfboneabaaaGreat
open Go.RowKit Go.Maps Go.Sort
theorem keyed_int:Keyed Tryz.prog 3:=int_keyed Tryz.underlying3
def SetAt (W:World) (b n:Nat) (S:List Int):Prop:=∃ D:DataW Unit,W.ownsMap Tryz.prog 3 unitElem b n D∧(∀ x,has D (.int .i64 x)=true ↔ x∈S)∧n≤1000000
theorem ownsMap_keep {W W':World} {S:Nat→Prop} {b n:Nat} {D:DataW Unit} (h:W.ownsMap Tryz.prog 3 unitElem b n D) (hk:Keep S W W') (hb:S b):W'.ownsMap Tryz.prog 3 unitElem b n D:=by
 obtain⟨es,clock,h1,r⟩:=h
 exact⟨es,clock,hk.heap hb h1,r⟩
theorem SetAt.keep {W W':World} {S:Nat→Prop} {b n:Nat} {T:List Int} (h:SetAt W b n T) (hk:Keep S W W') (hb:S b):SetAt W' b n T:=by
 obtain⟨D,h1,h2,h3⟩:=h
 exact⟨D,ownsMap_keep h1 hk hb,h2,h3⟩
theorem SetAt.lt {W:World} {b n:Nat} {T:List Int} (h:SetAt W b n T):b<W.heap.size:=by
 obtain⟨D,⟨es,clock,h1,_⟩,_⟩:=h
 exact(Array.getElem?_eq_some_iff.1 h1).1
theorem keyOf_small {x:Int} (h:I64 x):Go.keyOf Tryz.prog 3 (.int .i64 x)=some (.int .i64 x):=keyOf_int_mk Tryz.underlying3 (by
 unfold I64 at h
 have:=wrap64_wf x
 rw [show wrap64 x=x by unfold wrap64;omega] at this
 exact this)
theorem mapTurned_keep {w w':World} {b:Nat} (h:w.mapTurned w' b):Keep (fun k=>k≠b) w w':=by
 have hg:=h.grown
 exact(keep_grown (v:= .slice (some ⟨b,0,none⟩) 0 0) hg).mono fun k (hk:k≠b) _ h=>hk (by injection h with h;exact h.symm)
theorem lit_ne {x y:Int} (h:x≠y):(Lit.int .i64 x)≠Lit.int .i64 y:=fun e=>h (by injection e)
theorem set_put {W:World} {b n:Nat} {S:List Int} {x:Int} (h:SetAt W b n S) (hx:I64 x) (hn:n+1≤1000000):
 ∃ W',(Instr.mapUpdate 101 (.map (some b)) (.int .i64 x) (.agg #[])).run Tryz.prog W= .ok () W'∧SetAt W' b (n+1) (withN S x)∧Keep (fun k=>k≠b) W W':=by
 obtain⟨D,h1,h2,h3⟩:=h
 obtain⟨W',hrun,hown,hg⟩:=h1.store (t:=101) (e:=103) keyed_int Tryz.underlying101 (by unfold maxLen;omega) (keyOf_small hx) (val:= .agg #[]) unitElem_mk
 refine⟨W',hrun,⟨_,hown,fun y=> ?_,hn⟩,mapTurned_keep hg⟩
 rw [mem_withN]
 by_cases hy:y=x
 · subst hy
   rw [has_put_same h1.isMap (keyed_int.key (keyOf_small hx))]
   exact⟨fun _=> .inl rfl,fun _=>rfl⟩
 · rw [has_put_other (lit_ne hy),h2]
   exact⟨.inr,fun h=>h.resolve_left hy⟩
theorem keysI_any (b:Nat) (w:World):
 Calls Tryz.prog 51 #[.map (some b)] w fun e w'=>e= .returned (.func (.func 85) #[] #[.pointer (some ⟨w.heap.size,0,none⟩)])∧w'=w.alloc (.cells #[.map (some b)] 101):=
 (callsIn_wide (n:=5)).1 (AnyZI.keys_in keysILay Fence.wide 5 trivial rfl (some b) w)
theorem sortsI (m:Nat):AnyZI.SortsIn Tryz.prog sortedIRen Fence.wide m:=
 ⟨fun blk off cap ss W hH hblk hsz=>callsIn_wide.2 (Any.slices_Sort_int sortILay blk off cap ss W hH hblk hsz),fun p cap W=>callsIn_wide.2 (Any.slices_Sort_int_none sortILay p cap W)⟩
theorem sortedKeys_any (b n:Nat) (S:List Int) (hS:Rise S) (w:World) (h:SetAt w b n S):
 Calls Tryz.prog 50 #[.func (.func 85) #[] #[.pointer (some ⟨w.heap.size,0,none⟩)]] (w.alloc (.cells #[.map (some b)] 101)) fun e w'=>
  ∃ v,e= .returned v∧w'.ownsRow w.heap.size 3 1 v S.length (S.map (Value.int .i64))∧Below w.heap.size w w':=by
 obtain⟨D,h1,h2,h3⟩:=h
 have hb:=(Below.refl w.heap.size w).alloc (Nat.le_refl _) (.cells #[.map (some b)] 101)
 have hsz:Maps.size D≤n:=h1.size_le
 have hseq:SeqGives Fence.wide 2 Tryz.prog 85 #[.pointer (some ⟨w.heap.size,0,none⟩)] encZ (fun ss=>ss.Perm (intKeys D)) (Maps.size D) (w.alloc (.cells #[.map (some b)] 101)):=
  AnyZI.keys_gives (ρ:=keysIRen) { keysILay with } Fence.wide _ trivial rfl (by omega) w.heap.size b n D _ (by simp) ((Row.new w _ _).cell 0) (ownsMap_keep h1 (Keep.below (S:=fun _=>True) hb) trivial)
 have hc:=(callsIn_wide (n:=5)).1 (AnyZI.sorted_in sortedILay Fence.wide 5 trivial trivial trivial trivial rfl (by omega) (sortsI _) (enters_of Tryz.func84 (by kernel_rfl) rfl) 85 #[.pointer (some ⟨w.heap.size,0,none⟩)] trivial (enters_of Tryz.func85 (by kernel_rfl) rfl) _ (Maps.size D) (by unfold maxLen;omega) (by omega) _ hseq)
 refine hc.mono ?_
 rintro e w' ⟨v,ss,rfl,hp,hown,-,hb2⟩
 have hnd:S.Nodup:=hS.imp fun h e=>by omega
 have hP:S.Perm (intKeys D):=CollectedI.perm (D0:=D) (left:=fun _=>false) ⟨hnd,fun x=>by rw [h2 x];simp⟩ h1 keyed_int Tryz.underlying3 (fun _=>rfl)
 have hms:ss.mergeSort (fun x y=>decide (x≤y))=S:=by
  rw [mergeSort_of_perm_i (hp.trans hP.symm)]
  exact List.mergeSort_of_pairwise (hS.imp fun h=>by simp only [decide_eq_true_eq];omega)
 rw [hms] at hown
 have hl:ss.length=S.length:=(hp.trans hP.symm).length_eq
 rw [hl] at hown
 refine⟨v,rfl,ownsRow_weak hown (by simp),hb.trans (hb2.mono (by simp))⟩
end Go.Proofs.YtpnbkfboneabaaaGreat
namespace Go.Proofs.YtpnbkfboneabaaaGreat
open Go.RowKit
def StrIn (W:World) (v:Value) (l:List ByteArray):Prop:=∃ ao cap,v= .slice ao l.length cap∧l.length≤maxLen∧∀ i s,l[i]? =some s→∃ a,ao=some a∧W.cell? (a.add i)=some (.string s)
theorem StrAt.isIn {W:World} {B:Nat} {v:Value} {l:List ByteArray} (h:StrAt W B v l):StrIn W v l:=by
 rcases ownsRow_cases h (by decide) with ⟨rfl,h1,_⟩ | ⟨g,cap,rfl,_,_,hm,hc⟩
 · have:=List.eq_nil_of_length_eq_zero h1
   subst this
   exact⟨none,0,rfl,Nat.zero_le _,fun i s hs=>by simp at hs⟩
 · refine⟨_,cap,rfl,by omega,fun i s hs=>⟨⟨g,0,none⟩,rfl,?_⟩⟩
   rw [Addr.add_mid,Nat.zero_add]
   exact hc i _ (by rw [List.getElem?_map,hs];rfl)
theorem empty_text (c:ByteArray):c.toList.isEmpty=decide (c.size=0):=by
 rw [ByteArray.toList_eq]
 obtain⟨⟨l⟩⟩:=c
 cases l <;> simp [ByteArray.size]
namespace Pln
def setK (S:List Int) (x:Nat × Nat):List Int:=if x.1=1 then withN S x.2 else if x.1=2 then without S x.2 else S
def foldS (l:List (Nat × Nat)):List Int:=l.foldl setK []
theorem setK_rise {S:List Int} (h:Rise S) (x:Nat × Nat):Rise (setK S x):=by
 unfold setK
 split
 · exact withN_rise _ _
 · split
   · exact without_rise h _
   · exact h
theorem foldS_rise (l:List (Nat × Nat)):Rise (foldS l):=by
 unfold foldS
 have:∀(l:List (Nat × Nat)) (S:List Int),Rise S→Rise (l.foldl setK S):=by
  intro l
  induction l with
  | nil=>exact fun S h=>h
  | cons x l ih=>exact fun S h=>ih _ (setK_rise h x)
 exact this l [] Rise.nil
theorem foldS_snoc (l:List (Nat × Nat)) (x:Nat × Nat):foldS (l++[x])=setK (foldS l) x:=by
 unfold foldS
 rw [List.foldl_append]
 rfl
def OpensTo [Sha.Words] (o:Orc) (lb c t:ByteArray) (e:Int):Prop:=∀(nv cv:Value) (W:World),Sha.RoundIn W→NmAt W 0 nv o.d.nm→ClAt W 0 cv o.d.cl→
 Calls Tryz.prog 49 #[o.agg nv cv,.string lb,.string c] W fun x w'=>x= .returned (.tuple #[.string t,.int .i64 e])∧Below W.heap.size W w'
end Pln
theorem fold_any [Sha.Words] (o:Orc) (hg:o.Good) (nv cv:Value) (Ls Cs:List ByteArray) (v1 v2:Value) (ks:List (Nat × Nat)) (res:Int) (w:World) (hR:Sha.RoundIn w) (hN:NmAt w 0 nv o.d.nm) (hC:ClAt w 0 cv o.d.cl)
 (h1:StrIn w v1 Ls) (h2:StrIn w v2 Cs) (hlen:Ls.length=Cs.length) (hn:Cs.length≤100000) (hm:ks.length≤Cs.length)
 (hok:∀(i k id:Nat),ks[i]? =some (k,id)→k≤2∧id≤1073741824∧∃ lb c,Ls[i]? =some lb∧Cs[i]? =some c∧c.size≠0∧Pln.OpensTo o lb c (Pln.cellB k id) 0)
 (hstop:ks.length<Cs.length→∃ lb c,Ls[ks.length]? =some lb∧Cs[ks.length]? =some c∧((c.size=0∧res=30)∨(c.size≠0∧res≠0∧∃ t,Pln.OpensTo o lb c t res))):
 Calls Tryz.prog 27 #[o.agg nv cv,v1,v2] w fun e w'=>(∃ v,(ks.length=Cs.length∧e= .returned (.tuple #[v,.int .i64 0])∧IntsAt w' v (Pln.foldS ks))∨(ks.length<Cs.length∧e= .returned (.tuple #[.slice none 0 0,.int .i64 res])))∧Below w.heap.size w w':=by
 obtain⟨h0,hh0⟩:∃ h0,w.heap.size=h0:=⟨_,rfl⟩
 obtain⟨na,nk,rfl⟩:=slice_of hN
 obtain⟨ca,ck,rfl⟩:=slice_of hC
 obtain⟨ao1,cap1,rfl,hl1,hc1⟩:=h1
 obtain⟨ao2,cap2,rfl,hl2,hc2⟩:=h2
 have hRi:=fun W (hb:Below w.heap.size w W)=>oracleRight_all o hg (.slice na o.d.nm.length nk) (.slice ca o.d.cl.length ck) W (owns_below hN hb) (owns_below hC hb)
 have hOp:=fun(lb c t:ByteArray) (e:Int) (h:Pln.OpensTo o lb c t e) W (hb:Below w.heap.size w W)=>h (.slice na o.d.nm.length nk) (.slice ca o.d.cl.length ck) W (hR.below hb) (owns_below hN hb) (owns_below hC hb)
 have hO:∀ W,Below h0 (w.alloc (.cells #[.int .i64 o.m,.string o.key,.string o.d.tb,.int .i64 (o.d.pos:Int),.slice na o.d.nm.length nk,.slice ca o.d.cl.length ck,.bool o.d.clash] 34)) W→True:=fun _ _=>trivial
 clear hO
 have p0:=Row.new w 34 #[.int .i64 o.m,.string o.key,.string o.d.tb,.int .i64 (o.d.pos:Int),.slice na o.d.nm.length nk,.slice ca o.d.cl.length ck,.bool o.d.clash]
 have hb0:Below w.heap.size w (w.alloc (.cells #[.int .i64 o.m,.string o.key,.string o.d.tb,.int .i64 (o.d.pos:Int),.slice na o.d.nm.length nk,.slice ca o.d.cl.length ck,.bool o.d.clash] 34)):=(Below.refl _ w).alloc (Nat.le_refl _) _
 rw [hh0] at p0
 unfold Orc.agg Orc.vals at hRi hOp
 have HRi:=Lib.hid hRi
 have HOp0:=Lib.hid hOp
 have Hc1:=Lib.hid hc1
 have Hc2:=Lib.hid hc2
 have Hok:=Lib.hid hok
 have Hst:=Lib.hid hstop
 have Hm:=Lib.hid hm
 have Hlen:=Lib.hid hlen
 have P0:=Lib.hid p0
 have Hb0:=Lib.hid hb0
 have h64:(Ls.length:Int)=(Cs.length:Int):=by omega
 have h65:(Cs.length:Int)≤100000:=by omega
 clear hRi hOp hR hN hC hc1 hc2 hok hstop hm hlen p0 hb0 hl1 hl2 hg
 unfold Orc.agg Orc.vals
 have hmk:=fun W=>run_makeMap (P:=Tryz.prog) 101 W
 go_enter Tryz.func27,Tryz.ntmps27
 go_wp2_with fail
 refine(HRi.out _ Hb0.out).mono ?_
 rintro e w2 ⟨rfl,hb2⟩
 have P2:=Lib.hid (P0.out.below hb2 P0.out.lt)
 have Hb2:=Lib.hid (Hb0.out.trans (hb2.mono Hb0.out.size))
 obtain⟨bm,hbm⟩:∃ bm,w2.heap.size=bm:=⟨_,rfl⟩
 have hbh:h0<bm:=by have:=P2.out.lt;omega
 have hset:SetAt (w2.alloc (.map #[] 0)) bm 0 []:=⟨.map [],by rw [← hbm];exact World.ownsMap_made w2 _ _ _,fun x=>by simp [Go.Maps.has],by omega⟩
 have Hset:=Lib.hid hset
 have hk2:Keep (fun k=>k<bm) w2 (w2.alloc (.map #[] 0)):=(Keep.refl _ _).alloc _
 have Hk2:=Lib.hid hk2
 have hz2:(w2.alloc (.map #[] 0)).heap.size=bm+1:=by rw [World.size_alloc,hbm]
 clear hset hk2 hb2 HRi P0 Hb0
 go_wp2
 go_loopw [29] (fun vi wr=>∃ i:Nat,i≤ks.length∧vi= .int .i64 (i:Int)∧SetAt wr bm i (Pln.foldS (ks.take i))∧Keep (fun k=>k<bm) w2 wr) (fun vi _=>ks.length+1-(intOf vi).toNat)
 case atStart=>exact⟨0,Nat.zero_le _,rfl,Hset.out,Hk2.out⟩
 case round=>
  clear Hset Hk2
  obtain⟨i,hi,rfl,hset,hk⟩:=hrel
  have hbw:Below w.heap.size w wr:=((Keep.below (S:=fun k=>k<h0) Hb2.out).trans (hk.mono fun k (hk:k<h0) _=>by omega)).toBelow fun k hk=>by omega
  have hO:=P2.out.keep hk hbh
  have Hset:=Lib.hid hset
  have Hk:=Lib.hid hk
  have Hbw:=Lib.hid hbw
  have hbmw:=hset.lt
  clear hset hk hbw
  by_cases hin:i=Cs.length
  · have hkl:ks.length=Cs.length:=by have:=Hm.out;omega
    have htk:ks.take i=ks:=List.take_of_length_le (by omega)
    rw [htk] at Hset
    have hK:=fun W=>keysI_any bm W
    have hS:=sortedKeys_any bm i (Pln.foldS ks) (Pln.foldS_rise ks) wr Hset.out
    have HS:=Lib.hid hS
    have Hkl:=Lib.hid hkl
    have hin':¬ (i:Int)<(Cs.length:Int):=by omega
    clear hS hkl htk hO
    go_wp2_with (first
     | (go_at_call 51;refine(hK _).mono ?_;rintro e w3 ⟨rfl,rfl⟩)
     | (go_at_call 50;refine HS.out.mono ?_;rintro e w4 ⟨v,rfl,hown,hb4⟩))
    go_ret2
    exact⟨⟨v,.inl ⟨Hkl.out,rfl,IntsAt.own hown rfl⟩⟩,Hbw.out.trans (hb4.mono Hbw.out.size)⟩
  · have hin':(i:Int)<(Cs.length:Int):=by have:=Hm.out;omega
    have hlt2:i<Cs.length:=by omega
    obtain⟨c,hcc⟩:∃ c,Cs[i]? =some c:=⟨_,List.getElem?_eq_getElem hlt2⟩
    obtain⟨lb,hlb⟩:∃ lb,Ls[i]? =some lb:=⟨_,List.getElem?_eq_getElem (by have:=Hlen.out;omega)⟩
    obtain⟨a1,rfl,x1⟩:=Hc1.out i lb hlb
    obtain⟨a2,rfl,x2⟩:=Hc2.out i c hcc
    have x1:=cell_below Hbw.out x1
    have x2:=cell_below Hbw.out x2
    by_cases hlt:i<ks.length
    · obtain⟨⟨k,id⟩,hki⟩:∃ z,ks[i]? =some z:=⟨_,List.getElem?_eq_getElem hlt⟩
      obtain⟨hk2,hid,lb',c',hlb',hcc',hcz,hop⟩:=Hok.out i k id hki
      rw [hlb] at hlb'
      rw [hcc] at hcc'
      cases hlb'
      cases hcc'
      obtain⟨t,ht⟩:∃ t,Pln.cellB k id=t:=⟨_,rfl⟩
      obtain⟨e,he⟩:∃ e:Int,0=e:=⟨0,rfl⟩
      rw [ht,he] at hop
      have hO:∀ W,Below wr.heap.size wr W→Row W h0 34 #[.int .i64 o.m,.string o.key,.string o.d.tb,.int .i64 (o.d.pos:Int),.slice na o.d.nm.length nk,.slice ca o.d.cl.length ck,.bool o.d.clash]:=fun W hb=>hO.below hb hO.lt
      have HO:=Lib.hid hO
      have hOp:∀ W,Below wr.heap.size wr W→Calls Tryz.prog 49 #[.agg #[.int .i64 o.m,.string o.key,.string o.d.tb,.int .i64 (o.d.pos:Int),.slice na o.d.nm.length nk,.slice ca o.d.cl.length ck,.bool o.d.clash],.string lb,.string c] W fun x w'=>x= .returned (.tuple #[.string t,.int .i64 e])∧Below W.heap.size W w':=fun W hb=>HOp0.out lb c t e hop W (Hbw.out.trans (hb.mono Hbw.out.size))
      have HOp:=Lib.hid hOp
      have hce:c.toList.isEmpty=false:=by rw [empty_text,decide_eq_false hcz]
      have hRd:=fun W=>planRead_any k id hk2 hid W
      rw [ht] at hRd
      have HRd:=Lib.hid hRd
      have Hki:=Lib.hid hki
      have He:=Lib.hid he
      have hi64:I64 (id:Int):=⟨by omega,by omega⟩
      clear hcc hlb hop hcz hO hOp hRd hki ht he
      go_upto_region 9 with fail
      go_cut [11,12] from 36 to 45 (fun v11 v12 wx=>v11= .string t∧v12= .int .i64 e∧Below wr.heap.size wr wx)
      case first=>
       refine wp_region_any (by kernel_rfl) ?_
       change wpAny _ _ _ _ _ _ _ (World.drew wr)
       refine wpAny_head 12 [37,38,39,40,41,42,43,36,44,45,11,12] 0 #[true,true,true,true,true,true,true,true,true,true,true,true] (fun j v W=>match j with
        | 0=>v= .agg #[.int .i64 o.m,.string o.key,.string o.d.tb,.int .i64 (o.d.pos:Int),.slice na o.d.nm.length nk,.slice ca o.d.cl.length ck,.bool o.d.clash]
        | 1=>v= .slice (some a1) Ls.length cap1
        | 2=>v= .int .i64 (i:Int)
        | 3=>v= .pointer (some (a1.add i))
        | 4=>v= .string lb
        | 5=>v= .string c
        | 6=>v= .tuple #[.string t,.int .i64 e]
        | 7=>v= .tuple #[.string t,.int .i64 e]
        | 8=>v= .string t
        | 9=>v= .int .i64 e
        | 10=>v= .string t
        | _=>v= .int .i64 e) (by kernel_rfl) (by kernel_rfl) (by kernel_rfl) (by kernel_rfl) ?_ ?_ ?_
       · intro j hj v W W' h hb
         rcases j with _ | _ | _ | _ | _ | _ | _ | _ | _ | _ | _ | j
         all_goals first
          | exact h
          | (obtain⟨g,h1,h2,h3⟩:=h;exact⟨g,h1,h2,h3.below hb h3.lt⟩)
       · refine HSteps.cons rfl (fun x W ρ hB hdep hin hout hcon hfun=> ?_) (HSteps.cons rfl (fun x W ρ hB hdep hin hout hcon hfun=> ?_) (HSteps.cons rfl (fun x W ρ hB hdep hin hout hcon hfun=> ?_) (HSteps.cons rfl (fun x W ρ hB hdep hin hout hcon hfun=> ?_) (HSteps.cons rfl (fun x W ρ hB hdep hin hout hcon hfun=> ?_) (HSteps.cons rfl (fun x W ρ hB hdep hin hout hcon hfun=> ?_) (HSteps.cons rfl (fun x W ρ hB hdep hin hout hcon hfun=> ?_) (HSteps.cons rfl (fun x W ρ hB hdep hin hout hcon hfun=> ?_) (HSteps.cons rfl (fun x W ρ hB hdep hin hout hcon hfun=> ?_) (HSteps.cons rfl (fun x W ρ hB hdep hin hout hcon hfun=> ?_) (HSteps.cons rfl (fun x W ρ hB hdep hin hout hcon hfun=> ?_) (HSteps.cons rfl (fun x W ρ hB hdep hin hout hcon hfun=> ?_) (HSteps.nil (Nat.le_refl _)))))))))))))
         · skip
           have e3:=hout 3 (by decide)
           change ρ (.tmp 3)= .pointer (some ⟨h0,0,none⟩) at e3
           have rO:=HO.out W (below_drew hB)
           have u0:=rO.cell 0
           have u1:=rO.cell 1
           have u2:=rO.cell 2
           have u3:=rO.cell 3
           have u4:=rO.cell 4
           have u5:=rO.cell 5
           have u6:=rO.cell 6
           change World.cell? _ _=some _ at u0 u1 u2 u3 u4 u5 u6
           clear rO
           clear hdep hin hout
           refine Stepped.val ?_ rfl
           go_simp
         · skip
           have e1:=hout 1 (by decide)
           change ρ (.tmp 1)= .slice (some a1) Ls.length cap1 at e1
           clear hdep hin hout
           refine Stepped.val ?_ rfl
           go_simp
         · skip
           have e9:=hout 9 (by decide)
           change ρ (.tmp 9)= .int .i64 (i:Int) at e9
           clear hdep hin hout
           refine Stepped.val ?_ rfl
           go_simp
         · skip
           have d1:=hdep ⟨1,.data⟩ (by simp) rfl
           have e38:=hin 1 38 rfl
           rw [show x 1=_ from d1] at e38
           have d2:=hdep ⟨2,.data⟩ (by simp) rfl
           have e39:=hin 2 39 rfl
           rw [show x 2=_ from d2] at e39
           clear hdep hin hout
           refine Stepped.val ?_ rfl
           go_simp
         · skip
           have d3:=hdep ⟨3,.data⟩ (by simp) rfl
           have e40:=hin 3 40 rfl
           rw [show x 3=_ from d3] at e40
           have xl:=cell_below (below_drew hB) x1
           clear hdep hin hout
           refine Stepped.val ?_ rfl
           go_simp
         · skip
           have e10:=hout 10 (by decide)
           change ρ (.tmp 10)= .string c at e10
           clear hdep hin hout
           refine Stepped.val ?_ rfl
           go_simp
         · skip
           have d0:=hdep ⟨0,.data⟩ (by simp) rfl
           have e37:=hin 0 37 rfl
           rw [show x 0=_ from d0] at e37
           have d4:=hdep ⟨4,.data⟩ (by simp) rfl
           have e41:=hin 4 41 rfl
           rw [show x 4=_ from d4] at e41
           have d5:=hdep ⟨5,.data⟩ (by simp) rfl
           have e42:=hin 5 42 rfl
           rw [show x 5=_ from d5] at e42
           clear hdep hin hout
           refine Stepped.call (f:=49) (args:=#[.agg #[.int .i64 o.m,.string o.key,.string o.d.tb,.int .i64 (o.d.pos:Int),.slice na o.d.nm.length nk,.slice ca o.d.cl.length ck,.bool o.d.clash],.string lb,.string c]) ?_ ?_
           · go_simp
           · skip
             refine(HOp.out W (below_drew hB)).mono ?_
             rintro e' W' ⟨rfl,hbx⟩
             exact⟨_,rfl,hbx,rfl⟩
         · skip
           have d6:=hdep ⟨6,.data⟩ (by simp) rfl
           have e43:=hin 6 43 rfl
           rw [show x 6=_ from d6] at e43
           clear hdep hin hout
           refine Stepped.val ?_ rfl
           go_simp
         · skip
           have d7:=hdep ⟨7,.data⟩ (by simp) rfl
           have e36:=hin 7 36 rfl
           rw [show x 7=_ from d7] at e36
           clear hdep hin hout
           refine Stepped.val ?_ rfl
           go_simp
         · skip
           have d7:=hdep ⟨7,.data⟩ (by simp) rfl
           have e36:=hin 7 36 rfl
           rw [show x 7=_ from d7] at e36
           clear hdep hin hout
           refine Stepped.val ?_ rfl
           go_simp
         · skip
           have d8:=hdep ⟨8,.data⟩ (by simp) rfl
           have e44:=hin 8 44 rfl
           rw [show x 8=_ from d8] at e44
           clear hdep hin hout
           refine Stepped.val ?_ rfl
           go_simp
         · skip
           have d9:=hdep ⟨9,.data⟩ (by simp) rfl
           have e45:=hin 9 45 rfl
           rw [show x 9=_ from d9] at e45
           clear hdep hin hout
           refine Stepped.val ?_ rfl
           go_simp
       · intro x W hB hR
         have d10:=hR 10 (by decide)
         have d11:=hR 11 (by decide)
         clear hR
         change x 10=_ at d10
         change x 11=_ at d11
         simp only [putAll,Act.put,d10,d11]
         refine wpAny_done (by kernel_rfl) ?_ _
         go_simp
         rename_i hKK
         refine hKK _ _ ?_
         go_meet
         exact⟨rfl,rfl,below_drew hB⟩
      case rest=>
       obtain⟨w3,rfl⟩:∃ w3,w3=wc:=⟨_,rfl⟩
       obtain⟨rfl,rfl,hb3⟩:=hcut
       have He2:=He.out
       subst He2
       have hset3:=Hset.out.keep (Keep.below (S:=fun _=>True) hb3) trivial
       have hk3:Keep (fun k=>k<bm) w2 w3:=Hk.out.trans ((Keep.below hb3).mono fun _ _ _=>trivial)
       have Hset3:=Lib.hid hset3
       have Hk3:=Lib.hid hk3
       clear hset3 hk3 hb3 x1 x2 HO HOp
       go_wp2_with fail
       refine(HRd.out _).mono ?_
       rintro e' w4 ⟨rfl,hb4⟩
       have hset4:=Hset3.out.keep (Keep.below (S:=fun _=>True) hb4) trivial
       have Hk4:=Lib.hid (Hk3.out.trans ((Keep.below hb4).mono fun _ _ _=>trivial))
       have htk:Pln.foldS (ks.take (i+1))=Pln.setK (Pln.foldS (ks.take i)) (k,id):=by rw [take_one Hki.out];exact Pln.foldS_snoc _ _
       have hile:i+1≤ks.length:=hlt
       have hi1:i+1≤1000000:=by have:=Hm.out;omega
       have hcase:k=0∨k=1∨k=2:=by omega
       rcases hcase with rfl | rfl | rfl
       · have Hset4:=Lib.hid hset4
         have Htk:=Lib.hid htk
         clear hset4 htk hb4
         go_wp2
         go_roundw
         case rel=>
          refine⟨i+1,hile,by simp,?_,Hk4.out⟩
          rw [Htk.out]
          obtain⟨D,d1,d2,d3⟩:=Hset4.out
          obtain⟨es,clock,f1,f2,f3,f4⟩:=d1
          exact⟨D,⟨es,clock,f1,f2,by omega,f4⟩,d2,hi1⟩
         case measure=>simp [intOf];omega
       · obtain⟨w5,hup,hset5,hk5⟩:=set_put hset4 hi64 hi1
         have Hset5:=Lib.hid hset5
         have Htk:=Lib.hid htk
         have Hk5:=Lib.hid (Hk4.out.trans (hk5.mono fun k (hk:k<bm) _=>by omega))
         clear hset4 hset5 htk hk5 hb4
         go_wp2
         go_roundw
         case rel=>
          refine⟨i+1,hile,by simp,?_,Hk5.out⟩
          rw [Htk.out]
          exact Hset5.out
         case measure=>simp [intOf];omega
       · obtain⟨D,d1,d2,d3⟩:=hset4
         have D1:=Lib.hid d1
         have D2:=Lib.hid d2
         have Htk:=Lib.hid htk
         clear d1 d2 htk hb4
         go_wp2_with (at_delete;refine wpList_delete_own _ rfl _ _ 101 3 rfl 103 keyed_int Tryz.underlying101 unitElem bm i D rfl D1.out _ _ rfl (keyOf_small hi64) ?_)
         intro w5 hown5 hturn5
         have Hown5:=Lib.hid hown5
         have Hk5:=Lib.hid (Hk4.out.trans ((mapTurned_keep hturn5).mono fun k (hk:k<bm) _=>by omega))
         clear hown5 hturn5
         go_wp2
         go_roundw
         case rel=>
          refine⟨i+1,hile,by simp,?_,Hk5.out⟩
          rw [Htk.out]
          obtain⟨es,clock,f1,f2,f3,f4⟩:=Hown5.out
          refine⟨_,⟨es,clock,f1,f2,by omega,f4⟩,fun y=> ?_,hi1⟩
          show _ ↔ y∈without (Pln.foldS (ks.take i)) (id:Int)
          rw [mem_without]
          by_cases hy:y=(id:Int)
          · subst hy
            rw [Go.Maps.has_del_same]
            simp
          · rw [Go.Maps.has_del_other (lit_ne hy),D2.out]
            exact⟨fun h=>⟨h,hy⟩,fun h=>h.1⟩
         case measure=>simp [intOf];omega
    · obtain rfl:i=ks.length:=by omega
      obtain⟨lb',c',hlb',hcc',hend⟩:=Hst.out hlt2
      rw [hlb] at hlb'
      rw [hcc] at hcc'
      cases hlb'
      cases hcc'
      rcases hend with ⟨hcz,rfl⟩ | ⟨hcz,hrne,t,hop⟩
      · have hce:c.toList.isEmpty=true:=by rw [empty_text,decide_eq_true hcz]
        clear hcc hlb hcz hO
        go_wp2
        go_ret2
        exact⟨rfl,by rw [← hh0];exact Hbw.out⟩
      · obtain⟨i,hi'⟩:∃ i,ks.length=i:=⟨_,rfl⟩
        rw [hi'] at x1 x2 hin' hlt2 ⊢
        obtain⟨e,he⟩:∃ e,res=e:=⟨_,rfl⟩
        rw [he] at hop hrne
        have hO:∀ W,Below wr.heap.size wr W→Row W h0 34 #[.int .i64 o.m,.string o.key,.string o.d.tb,.int .i64 (o.d.pos:Int),.slice na o.d.nm.length nk,.slice ca o.d.cl.length ck,.bool o.d.clash]:=fun W hb=>hO.below hb hO.lt
        have HO:=Lib.hid hO
        have hOp:∀ W,Below wr.heap.size wr W→Calls Tryz.prog 49 #[.agg #[.int .i64 o.m,.string o.key,.string o.d.tb,.int .i64 (o.d.pos:Int),.slice na o.d.nm.length nk,.slice ca o.d.cl.length ck,.bool o.d.clash],.string lb,.string c] W fun x w'=>x= .returned (.tuple #[.string t,.int .i64 e])∧Below W.heap.size W w':=fun W hb=>HOp0.out lb c t e hop W (Hbw.out.trans (hb.mono Hbw.out.size))
        have HOp:=Lib.hid hOp
        have hce:c.toList.isEmpty=false:=by rw [empty_text,decide_eq_false hcz]
        have He:=Lib.hid he
        have Hi:=Lib.hid hi'
        clear hcc hlb hop hcz hO hOp he hi' Hset Hst
        go_upto_region 9 with fail
        go_cut [11,12] from 36 to 45 (fun v11 v12 wx=>v11= .string t∧v12= .int .i64 e∧Below wr.heap.size wr wx)
        case first=>
         refine wp_region_any (by kernel_rfl) ?_
         change wpAny _ _ _ _ _ _ _ (World.drew wr)
         refine wpAny_head 12 [37,38,39,40,41,42,43,36,44,45,11,12] 0 #[true,true,true,true,true,true,true,true,true,true,true,true] (fun j v W=>match j with
          | 0=>v= .agg #[.int .i64 o.m,.string o.key,.string o.d.tb,.int .i64 (o.d.pos:Int),.slice na o.d.nm.length nk,.slice ca o.d.cl.length ck,.bool o.d.clash]
          | 1=>v= .slice (some a1) Ls.length cap1
          | 2=>v= .int .i64 (i:Int)
          | 3=>v= .pointer (some (a1.add i))
          | 4=>v= .string lb
          | 5=>v= .string c
          | 6=>v= .tuple #[.string t,.int .i64 e]
          | 7=>v= .tuple #[.string t,.int .i64 e]
          | 8=>v= .string t
          | 9=>v= .int .i64 e
          | 10=>v= .string t
          | _=>v= .int .i64 e) (by kernel_rfl) (by kernel_rfl) (by kernel_rfl) (by kernel_rfl) ?_ ?_ ?_
         · intro j hj v W W' h hb
           rcases j with _ | _ | _ | _ | _ | _ | _ | _ | _ | _ | _ | j
           all_goals first
            | exact h
            | (obtain⟨g,h1,h2,h3⟩:=h;exact⟨g,h1,h2,h3.below hb h3.lt⟩)
         · refine HSteps.cons rfl (fun x W ρ hB hdep hin hout hcon hfun=> ?_) (HSteps.cons rfl (fun x W ρ hB hdep hin hout hcon hfun=> ?_) (HSteps.cons rfl (fun x W ρ hB hdep hin hout hcon hfun=> ?_) (HSteps.cons rfl (fun x W ρ hB hdep hin hout hcon hfun=> ?_) (HSteps.cons rfl (fun x W ρ hB hdep hin hout hcon hfun=> ?_) (HSteps.cons rfl (fun x W ρ hB hdep hin hout hcon hfun=> ?_) (HSteps.cons rfl (fun x W ρ hB hdep hin hout hcon hfun=> ?_) (HSteps.cons rfl (fun x W ρ hB hdep hin hout hcon hfun=> ?_) (HSteps.cons rfl (fun x W ρ hB hdep hin hout hcon hfun=> ?_) (HSteps.cons rfl (fun x W ρ hB hdep hin hout hcon hfun=> ?_) (HSteps.cons rfl (fun x W ρ hB hdep hin hout hcon hfun=> ?_) (HSteps.cons rfl (fun x W ρ hB hdep hin hout hcon hfun=> ?_) (HSteps.nil (Nat.le_refl _)))))))))))))
           · skip
             have e3:=hout 3 (by decide)
             change ρ (.tmp 3)= .pointer (some ⟨h0,0,none⟩) at e3
             have rO:=HO.out W (below_drew hB)
             have u0:=rO.cell 0
             have u1:=rO.cell 1
             have u2:=rO.cell 2
             have u3:=rO.cell 3
             have u4:=rO.cell 4
             have u5:=rO.cell 5
             have u6:=rO.cell 6
             change World.cell? _ _=some _ at u0 u1 u2 u3 u4 u5 u6
             clear rO
             clear hdep hin hout
             refine Stepped.val ?_ rfl
             go_simp
           · skip
             have e1:=hout 1 (by decide)
             change ρ (.tmp 1)= .slice (some a1) Ls.length cap1 at e1
             clear hdep hin hout
             refine Stepped.val ?_ rfl
             go_simp
           · skip
             have e9:=hout 9 (by decide)
             change ρ (.tmp 9)= .int .i64 (i:Int) at e9
             clear hdep hin hout
             refine Stepped.val ?_ rfl
             go_simp
           · skip
             have d1:=hdep ⟨1,.data⟩ (by simp) rfl
             have e38:=hin 1 38 rfl
             rw [show x 1=_ from d1] at e38
             have d2:=hdep ⟨2,.data⟩ (by simp) rfl
             have e39:=hin 2 39 rfl
             rw [show x 2=_ from d2] at e39
             clear hdep hin hout
             refine Stepped.val ?_ rfl
             go_simp
           · skip
             have d3:=hdep ⟨3,.data⟩ (by simp) rfl
             have e40:=hin 3 40 rfl
             rw [show x 3=_ from d3] at e40
             have xl:=cell_below (below_drew hB) x1
             clear hdep hin hout
             refine Stepped.val ?_ rfl
             go_simp
           · skip
             have e10:=hout 10 (by decide)
             change ρ (.tmp 10)= .string c at e10
             clear hdep hin hout
             refine Stepped.val ?_ rfl
             go_simp
           · skip
             have d0:=hdep ⟨0,.data⟩ (by simp) rfl
             have e37:=hin 0 37 rfl
             rw [show x 0=_ from d0] at e37
             have d4:=hdep ⟨4,.data⟩ (by simp) rfl
             have e41:=hin 4 41 rfl
             rw [show x 4=_ from d4] at e41
             have d5:=hdep ⟨5,.data⟩ (by simp) rfl
             have e42:=hin 5 42 rfl
             rw [show x 5=_ from d5] at e42
             clear hdep hin hout
             refine Stepped.call (f:=49) (args:=#[.agg #[.int .i64 o.m,.string o.key,.string o.d.tb,.int .i64 (o.d.pos:Int),.slice na o.d.nm.length nk,.slice ca o.d.cl.length ck,.bool o.d.clash],.string lb,.string c]) ?_ ?_
             · go_simp
             · skip
               refine(HOp.out W (below_drew hB)).mono ?_
               rintro e' W' ⟨rfl,hbx⟩
               exact⟨_,rfl,hbx,rfl⟩
           · skip
             have d6:=hdep ⟨6,.data⟩ (by simp) rfl
             have e43:=hin 6 43 rfl
             rw [show x 6=_ from d6] at e43
             clear hdep hin hout
             refine Stepped.val ?_ rfl
             go_simp
           · skip
             have d7:=hdep ⟨7,.data⟩ (by simp) rfl
             have e36:=hin 7 36 rfl
             rw [show x 7=_ from d7] at e36
             clear hdep hin hout
             refine Stepped.val ?_ rfl
             go_simp
           · skip
             have d7:=hdep ⟨7,.data⟩ (by simp) rfl
             have e36:=hin 7 36 rfl
             rw [show x 7=_ from d7] at e36
             clear hdep hin hout
             refine Stepped.val ?_ rfl
             go_simp
           · skip
             have d8:=hdep ⟨8,.data⟩ (by simp) rfl
             have e44:=hin 8 44 rfl
             rw [show x 8=_ from d8] at e44
             clear hdep hin hout
             refine Stepped.val ?_ rfl
             go_simp
           · skip
             have d9:=hdep ⟨9,.data⟩ (by simp) rfl
             have e45:=hin 9 45 rfl
             rw [show x 9=_ from d9] at e45
             clear hdep hin hout
             refine Stepped.val ?_ rfl
             go_simp
         · intro x W hB hR
           have d10:=hR 10 (by decide)
           have d11:=hR 11 (by decide)
           clear hR
           change x 10=_ at d10
           change x 11=_ at d11
           simp only [putAll,Act.put,d10,d11]
           refine wpAny_done (by kernel_rfl) ?_ _
           go_simp
           rename_i hKK
           refine hKK _ _ ?_
           go_meet
           exact⟨rfl,rfl,below_drew hB⟩
        case rest=>
         obtain⟨w3,rfl⟩:∃ w3,w3=wc:=⟨_,rfl⟩
         obtain⟨rfl,rfl,hb3⟩:=hcut
         have Hb3:=Lib.hid (Hbw.out.trans (hb3.mono Hbw.out.size))
         clear hb3 x1 x2 HO HOp
         go_wp2
         go_ret2
         rw [He.out]
         exact⟨⟨.slice none 0 0,.inr ⟨by rw [Hi.out];exact hlt2,rfl⟩⟩,Hb3.out⟩
def renSt:Go.Shelf.Ren:=⟨fun | 41=>56 | n=>n,fun | 4=>4 | 22=>43 | 23=>9 | n=>n,fun n=>n⟩
theorem laySt:SlLaysE0.n41 Tryz.prog renSt:={
 mixed:=by kernel_rfl
 f41:=⟨Tryz.f56.name,by decide,Tryz.func56.trans (congrArg some (by kernel_rfl))⟩
 t4:=Tryz.underlying4
 a4:=Tryz.isAgg4
 z4:=Tryz.sizeOf4
 v4:=Tryz.zeroValue4
 t22:=Tryz.underlying43
 a22:=Tryz.isAgg43
 z22:=Tryz.sizeOf43
 v22:=Tryz.zeroValue43 }
theorem cloneS_any (g off c:Nat) (l:List ByteArray) (w:World) (hl:l.length≤100000) (hc:∀ j s,l[j]? =some s→w.cell? ⟨g,off+j,none⟩=some (.string s)):
 Calls Tryz.prog 56 #[.slice (some ⟨g,off,none⟩) l.length c] w fun e w'=>∃ v',e= .returned v'∧StrAt w' w.heap.size v' l∧Below w.heap.size w w':=by
 obtain⟨i0,hi,hz0,hz1,hz2⟩:=info_parts (show(Tryz.prog.info? 9).map (fun i=>(i.zero,i.size,i.bytes))=some (some (.string ⟨#[]⟩),1,16) by kernel_rfl)
 refine(AnyE.slices_Clone laySt i0 (.string ⟨#[]⟩) 1 16 hi hz0 hz1 hz2 rfl (by decide) Tryz.sizeOf9 g off l.length c (l.map .string) w (by simp) (by unfold maxLen;omega) (by omega) (fun j u hu=> ?_) (fun u hu=> ?_)).mono ?_
 · rw [List.getElem?_map] at hu
   cases hj:l[j]? with
   | none=>rw [hj] at hu;cases hu
   | some s=>rw [hj] at hu;cases hu;exact hc j s hj
 · obtain⟨s,_,rfl⟩:=List.mem_map.1 hu
   rfl
 · rintro e w' ⟨v',he,hown,-,hb⟩
   exact⟨v',he,hown,hb⟩
def Pln.chs (n:Nat):List (Nat × Nat):=(List.range ((n+199) / 200)).map fun j=>(200*j,min 200 (n-200*j))
theorem Pln.chs_length (n:Nat):(Pln.chs n).length=(n+199) / 200:=by simp [Pln.chs]
theorem Pln.chs_at {n j:Nat} (h:200*j<n):(Pln.chs n)[j]? =some (200*j,min 200 (n-200*j)):=by
 unfold Pln.chs
 rw [List.getElem?_map,List.getElem?_range (by omega)]
 rfl
def encC (g:Nat) (x:Nat × Nat):Array Value:=#[.slice (some ⟨g,x.1,none⟩) x.2 x.2]
theorem chunk1_seq (g n cap:Nat) (ao:Option Addr) (hao:0<n→ao=some ⟨g,0,none⟩) (hnc:n≤cap) (hcm:n≤100000) (b1 b2:Nat) (need:Nat→Prop) (hl1:need b1) (hl2:need b2) (w0:World) (h1:w0.cell? ⟨b1,0,none⟩=some (.slice ao n cap)) (h2:w0.cell? ⟨b2,0,none⟩=some (.int .i64 200)) (w:World) (hk0:Keep need w0 w):
 SeqG Tryz.prog 88 #[.pointer (some ⟨b1,0,none⟩),.pointer (some ⟨b2,0,none⟩)] (encC g) (Pln.chs n) (fun _=>False) need (fun _ _=>True) (fun _ _ _=>True) w:=by
 intro lp J W hW hz hJ hY hJ0 _
 have hkW:=hk0.trans hW
 have hst:∃ i:Nat,i≤(n+199) / 200∧Value.int .i64 0= .int .i64 ((200*i:Nat):Int)∧J ((Pln.chs n).take i) W∧Keep need w0 W:=⟨0,Nat.zero_le _,rfl,by rw [List.take_zero];exact hJ0,hkW⟩
 have HJ:=Lib.hid hJ
 have HY:=Lib.hid hY
 have Hst:=Lib.hid hst
 have H1:=Lib.hid h1
 have H2:=Lib.hid h2
 clear hJ hY hst hJ0 hW hz hkW hk0 h1 h2
 refine(callsIn_wide (n:=9)).1 ?_
 refine callsIn_of_wp Tryz.func88 rfl trivial ?_ rfl
 simp only [Tryz.ntmps88,List.size_toArray,List.length_cons,List.length_nil,Nat.reduceAdd,Nat.reduceSub,Array.replicate_succ,Array.replicate_zero,List.push_toArray,List.append_toArray,List.nil_append,List.cons_append]
 gi_wp2
 gi_loopw [4] (fun vi wr=>∃ i:Nat,i≤(n+199) / 200∧vi= .int .i64 ((200*i:Nat):Int)∧J ((Pln.chs n).take i) wr∧Keep need w0 wr) (fun vi _=>n+200-(intOf vi).toNat)
 case atStart=>exact Hst.out
 case round=>
  clear Hst
  obtain⟨i,hi,rfl,hj,hk⟩:=hrel
  have z1:=hk.cell (p:=⟨b1,0,none⟩) hl1 H1.out
  have z2:=hk.cell (p:=⟨b2,0,none⟩) hl2 H2.out
  by_cases hlt:200*i<n
  · have hx:=Pln.chs_at hlt
    obtain rfl:=hao (by omega)
    have hlt':200*(i:Int)<(n:Int):=by omega
    obtain⟨ee,hee⟩:∃ ee,min 200 (n-200*i)=ee:=⟨_,rfl⟩
    have hmin:min (200:Int) ((n-200*i:Nat):Int)=(ee:Int):=by omega
    rw [hee] at hx
    have hj0:∀ q,J ((Pln.chs n).take i) (wr.drewN q):=fun q=>HJ.out _ _ _ hj (⟨rfl,rfl,rfl,Nat.le_refl _,fun _ _ _=>rfl⟩:Keep (fun k=>¬ False) wr (wr.drewN q))
    have hk0:∀ q,Keep need w0 (wr.drewN q):=fun q=>hk.trans ⟨rfl,rfl,rfl,Nat.le_refl _,fun _ _ _=>rfl⟩
    have Hj:=Lib.hid hj0
    have Hk:=Lib.hid hk0
    have Hx:=Lib.hid hx
    clear hj hk hx hj0 hk0
    gi_wp2
    refine wpIn_wide.2 ?_
    go_cut [5] from 13 to 18 (fun v5 wx=>v5= .int .i64 (ee:Int)∧∃ q,wx=wr.drewN q)
    case first=>
     go_quiet (fail)
     go_wp2
     go_meet
     exact⟨rfl,_,rfl⟩
    case rest=>
     obtain⟨rfl,q,rfl⟩:=hcut
     have hY1:=HY.out _ _ _ (take_at Hx.out) _ (Hj.out q) trivial
     obtain⟨fn,tmps,assign,body,hy,hR⟩:=hY1
     dsimp only [encC] at hy
     have Hft:=Lib.hid (take_one Hx.out)
     have he1:200*i+ee≤n:=by omega
     have he2:200*(i:Int)+(ee:Int)≤(cap:Int):=by omega
     have he3:200*(i:Int)+(ee:Int)≤100000:=by omega
     have he4:200*i+ee≤cap:=by omega
     gi_wp2
     refine(hR 8).mono ?_
     rintro e W3 ⟨rfl,hj4,_,hk4⟩
     have hnx:∃ i':Nat,i'≤(n+199) / 200∧Value.int .i64 (200*(i:Int)+200)= .int .i64 ((200*i':Nat):Int)∧J ((Pln.chs n).take i') W3∧Keep need w0 W3:=⟨i+1,by omega,by first | (congr 1;done) | (congr 1;omega),by rw [Hft.out];exact hj4,(Hk.out q).trans hk4⟩
     have Hnx:=Lib.hid hnx
     have z2:=hk4.cell (p:=⟨b2,0,none⟩) hl2 z2
     clear hnx hj4 hk4 hy hR
     gi_wp2
     go_roundw
     all_goals first | exact Hnx.out | (simp [intOf];omega)
  · obtain rfl:i=(n+199) / 200:=by omega
    rw [List.take_of_length_le (by rw [Pln.chs_length];exact Nat.le_refl _)] at hj
    have hlt':¬ 200*(((n:Int)+199) / 200)<(n:Int):=by omega
    have Hj:=Lib.hid hj
    clear hj hk
    gi_wp2
    exact⟨rfl,_,results_none rfl _ _ _,⟨_,rfl⟩,Hj.out⟩
theorem chunk_any (ao:Option Addr) (n cap:Nat) (w:World):
 Calls Tryz.prog 55 #[.slice ao n cap,.int .i64 200] w fun e w'=>e= .returned (.func (.func 88) #[] #[.pointer (some ⟨w.heap.size,0,none⟩),.pointer (some ⟨w.heap.size+1,0,none⟩)])∧w'=(w.alloc (.cells #[.slice ao n cap] 43)).alloc (.cells #[.int .i64 200] 3):=by
 go_enter Tryz.func55,Tryz.ntmps55
 go_wp2
 go_ret
 exact⟨rfl,rfl⟩
theorem infoReq:(Tryz.prog.info? 49).map (fun i=>(i.zero,i.size,i.bytes))=some (some (.agg #[.int .i64 0,.slice none 0 0,.slice none 0 0]),3,56):=by kernel_rfl
namespace Pln
def reqX (kind:Int) (lvs:List Value):List Value:=lvs.flatMap fun lv=>[.int .i64 kind,lv,.slice none 0 0]
def chunkOf (L:List ByteArray) (x:Nat × Nat):List ByteArray:=(L.drop x.1).take x.2
theorem reqX_snoc (kind:Int) (lvs:List Value) (lv:Value):reqX kind (lvs++[lv])=reqX kind lvs++[.int .i64 kind,lv,.slice none 0 0]:=by simp [reqX]
structure LvsAt (W:World) (nb:Nat) (L:List ByteArray) (pre:List (Nat × Nat)) (lvs:List Value):Prop where
 n:lvs.length=pre.length
 a:∀(i:Nat) (lv:Value) (x:Nat × Nat),lvs[i]? =some lv→pre[i]? =some x→StrAt W nb lv (chunkOf L x)
theorem LvsAt.keep {W W':World} {nb:Nat} {L:List ByteArray} {pre:List (Nat × Nat)} {lvs:List Value} {S:Nat→Prop} (h:LvsAt W nb L pre lvs) (hk:Keep S W W') (hS:∀(i:Nat) (lv:Value) (x:Nat × Nat),lvs[i]? =some lv→pre[i]? =some x→StrAt W nb lv (chunkOf L x)→∀ k,lv.ownBlock=some k→S k):LvsAt W' nb L pre lvs:=
 ⟨h.n,fun i lv x h1 h2=>owns_keep (h.a i lv x h1 h2) hk (hS i lv x h1 h2 (h.a i lv x h1 h2))⟩
theorem LvsAt.below {W W':World} {nb:Nat} {L:List ByteArray} {pre:List (Nat × Nat)} {lvs:List Value} (h:LvsAt W nb L pre lvs) (hb:Below W.heap.size W W'):LvsAt W' nb L pre lvs:=
 ⟨h.n,fun i lv x h1 h2=>owns_below (h.a i lv x h1 h2) hb⟩
theorem LvsAt.weak {W:World} {nb nb':Nat} {L:List ByteArray} {pre:List (Nat × Nat)} {lvs:List Value} (h:LvsAt W nb L pre lvs) (hb:nb'≤nb):LvsAt W nb' L pre lvs:=
 ⟨h.n,fun i lv x h1 h2=>ownsRow_weak (h.a i lv x h1 h2) hb⟩
theorem LvsAt.snoc {W:World} {nb:Nat} {L:List ByteArray} {pre:List (Nat × Nat)} {lvs:List Value} {x:Nat × Nat} {lv:Value} (h:LvsAt W nb L pre lvs) (h1:StrAt W nb lv (chunkOf L x)):LvsAt W nb L (pre++[x]) (lvs++[lv]):=by
 refine⟨by simp [h.n],fun i u y hu hy=> ?_⟩
 by_cases hi:i<pre.length
 · rw [List.getElem?_append_left (by rw [h.n];exact hi)] at hu
   rw [List.getElem?_append_left hi] at hy
   exact h.a i u y hu hy
 · have hil:i<(pre++[x]).length:=(List.getElem?_eq_some_iff.1 hy).1
   rw [List.length_append,List.length_singleton] at hil
   obtain rfl:i=pre.length:=by omega
   rw [List.getElem?_append_right (Nat.le_refl _),Nat.sub_self] at hy
   rw [← h.n,List.getElem?_append_right (Nat.le_refl _),Nat.sub_self] at hu
   cases hy
   cases hu
   exact h1
structure PrtI (h0:Nat) (kind:Int) (L:List ByteArray) (W4:World) (pre:List (Nat × Nat)) (W:World):Prop where
 s:∃ v lvs,Row W (h0+1) 66 #[v]∧W.ownsRow (h0+6) 49 3 v pre.length (reqX kind lvs)∧LvsAt W (h0+6) L pre lvs
 k:Keep (fun k=>k<h0+4∧k≠h0+1) W4 W
theorem PrtI.keep {h0:Nat} {kind:Int} {L:List ByteArray} {W4:World} {pre:List (Nat × Nat)} {W W':World} {S:Nat→Prop} (h:PrtI h0 kind L W4 pre W) (hk:Keep S W W') (hS:∀ k,k≠h0+4→k≠h0+5→S k):PrtI h0 kind L W4 pre W':=by
 obtain⟨v,lvs,h1,h2,h3⟩:=h.s
 exact⟨⟨v,lvs,h1.keep hk (hS _ (by omega) (by omega)),owns_keep h2 hk (fun k hk2=>by have:=(h2.lt k hk2).1;exact hS k (by omega) (by omega)),h3.keep hk fun i lv x _ _ h k hk2=>by have:=(h.lt k hk2).1;exact hS k (by omega) (by omega)⟩,
  h.k.trans (hk.mono fun k hk2 _=>hS k (by omega) (by omega))⟩
structure PrtS (W0:World) (gb nb:Nat) (r:Value) (L:List ByteArray) (pre:List (Nat × Nat)) (lvs:List Value) (W:World):Prop where
 k:Keep (fun k=>k<nb∧k≠gb) W0 W
 r:Row W gb 66 #[r]
 l:LvsAt W nb L pre lvs
 z:W0.heap.size≤W.heap.size
def PrtB (W0:World) (gb nb:Nat) (vv:Value) (kind:Int) (L:List ByteArray) (pre:List (Nat × Nat)) (lvs:List Value) (b:Nat) (x:Nat→Value) (W:World):Prop:=
 PrtS W0 gb nb (if 2≤b then x 6 else vv) L pre lvs W∧(b=0→W.ownsRow nb 49 3 vv pre.length (reqX kind lvs))
theorem PrtB.below {W0:World} {gb nb:Nat} {vv:Value} {kind:Int} {L:List ByteArray} {pre:List (Nat × Nat)} {lvs:List Value} {b:Nat} {x y:Nat→Value} {W W':World} (h:PrtB W0 gb nb vv kind L pre lvs b x W) (he:∀ s∈[6,7],y s=x s) (hb:Below W.heap.size W W'):PrtB W0 gb nb vv kind L pre lvs b y W':=by
 obtain⟨h1,h2⟩:=h
 refine⟨?_,fun e=>owns_below (h2 e) hb⟩
 rw [he 6 (by simp)]
 exact⟨h1.k.trans ((Keep.below hb).mono fun _ _ _=>trivial),h1.r.below hb h1.r.lt,h1.l.below hb,Nat.le_trans h1.z hb.size⟩
def PrtR (nb:Nat) (vv:Value) (kind:Int) (g:Nat) (x0:Nat × Nat) (L:List ByteArray) (n:Nat) (xs:List Value) (b j:Nat) (v:Value) (W:World):Prop:=match j with
 | 0=>v=vv
 | 1=>v= .int .i64 kind
 | 2=>v= .slice (some ⟨g,x0.1,none⟩) x0.2 x0.2
 | 3=>StrAt W nb v (chunkOf L x0)
 | 4=>∃ lv,v= .agg #[.int .i64 kind,lv,.slice none 0 0]∧StrAt W nb lv (chunkOf L x0)
 | 5=>∃ lv q,v= .slice (some ⟨q,0,none⟩) 1 1∧StrAt W nb lv (chunkOf L x0)∧(b=0→∀ i u,[.int .i64 kind,lv,.slice none 0 0][i]? =some u→W.cell? ⟨q,i,none⟩=some u)
 | 6=>1≤b∧(∃ a c,v= .slice a (n+1) c)∧∃ lv,StrAt W nb lv (chunkOf L x0)∧W.ownsRow nb 49 3 v (n+1) (xs++[.int .i64 kind,lv,.slice none 0 0])
 | _=>True
theorem PrtR.below {nb:Nat} {vv:Value} {kind:Int} {g:Nat} {x0:Nat × Nat} {L:List ByteArray} {n:Nat} {xs:List Value} {b:Nat} {v:Value} {W W':World} (hb:Below W.heap.size W W'):∀ j,PrtR nb vv kind g x0 L n xs b j v W→PrtR nb vv kind g x0 L n xs b j v W'
 | 0,h=>h
 | 1,h=>h
 | 2,h=>h
 | 3,h=>owns_below h hb
 | 4,⟨lv,h1,h2⟩=>⟨lv,h1,owns_below h2 hb⟩
 | 5,⟨lv,q,h1,h2,h3⟩=>⟨lv,q,h1,owns_below h2 hb,fun e i u hu=>cell_below hb (h3 e i u hu)⟩
 | 6,⟨h1,h2,lv,h3,h4⟩=>⟨h1,h2,lv,owns_below h3 hb,owns_below h4 hb⟩
 | _+7,_=>trivial
theorem prt_turn0 {W0:World} {gb nb:Nat} {vv:Value} {kind:Int} {g:Nat} {x0:Nat × Nat} {L:List ByteArray} {pre:List (Nat × Nat)} {lvs:List Value} {x:Nat→Value} {W W':World} {v' lv:Value} (hg:gb<nb)
 (hB:PrtB W0 gb nb vv kind L pre lvs 0 x W) (hlv:StrAt W nb lv (chunkOf L x0)) (hown:W'.ownsRow nb 49 3 v' (pre.length+1) (reqX kind lvs++[.int .i64 kind,lv,.slice none 0 0])) (hgr:W.grownBy W' vv.ownBlock):
 PrtB W0 gb nb vv kind L pre lvs 1 (fun j=>if j=6 then v' else x j) W'∧PrtR nb vv kind g x0 L pre.length (reqX kind lvs) 1 6 v' W'∧∀ j,j≠6→PrtR nb vv kind g x0 L pre.length (reqX kind lvs) 0 j (x j) W→PrtR nb vv kind g x0 L pre.length (reqX kind lvs) 1 j (x j) W':=by
 obtain⟨h1,h2⟩:=hB
 have h2:=h2 rfl
 have hk:=keep_grown hgr
 have hst:∀ {u:Value} {l:List ByteArray},StrAt W nb u l→∀ k,u.ownBlock=some k→vv.ownBlock≠some k:=fun h k hk2=>two_rows h h2 (by decide) hk2
 refine⟨⟨⟨h1.k.trans (hk.mono fun k hk2 _ e=>by have:=(h2.lt k e).1;omega),h1.r.keep hk (fun e=>by have:=(h2.lt gb e).1;omega),h1.l.keep hk fun i u y _ _ hu k hk2=>hst hu k hk2,Nat.le_trans h1.z hgr.size⟩,fun e=>absurd e (by decide)⟩,⟨Nat.le_refl _,slice_of hown,lv,owns_keep hlv hk (hst hlv),hown⟩,?_⟩
 intro j hj h
 match j,hj,h with
 | 0,_,h=>exact h
 | 1,_,h=>exact h
 | 2,_,h=>exact h
 | 3,_,h=>exact owns_keep h hk (hst h)
 | 4,_,⟨lv,h1,h2⟩=>exact⟨lv,h1,owns_keep h2 hk (hst h2)⟩
 | 5,_,⟨lv,q,h1,h2,_⟩=>exact⟨lv,q,h1,owns_keep h2 hk (hst h2),fun e=>absurd e (by decide)⟩
 | 6,hj,_=>exact absurd rfl hj
 | _+7,_,_=>trivial
theorem prt_turn1 {W0:World} {gb nb:Nat} {vv:Value} {kind:Int} {g:Nat} {x0:Nat × Nat} {L:List ByteArray} {pre:List (Nat × Nat)} {lvs:List Value} {x:Nat→Value} {W:World} (hg:gb<nb) (v:Value)
 (hB:PrtB W0 gb nb vv kind L pre lvs 1 x W):
 PrtB W0 gb nb vv kind L pre lvs 2 (fun j=>if j=7 then v else x j) (W.setCell ⟨gb,0,none⟩ (x 6))∧∀ j,PrtR nb vv kind g x0 L pre.length (reqX kind lvs) 1 j (x j) W→PrtR nb vv kind g x0 L pre.length (reqX kind lvs) 2 j (x j) (W.setCell ⟨gb,0,none⟩ (x 6)):=by
 obtain⟨h1,_⟩:=hB
 have hk:Keep (fun k=>k≠gb) W (W.setCell ⟨gb,0,none⟩ (x 6)):=(Keep.refl _ _).setCell (p:=⟨gb,0,none⟩) (fun h=>absurd rfl h) _
 have hst:∀ {u:Value} {l:List ByteArray},StrAt W nb u l→∀ k,u.ownBlock=some k→k≠gb:=fun h k hk2 e=>by have:=(h.lt k hk2).1;omega
 refine⟨⟨⟨h1.k.trans (hk.mono fun k hk2 _=>hk2.2),h1.r.store 0 _,h1.l.keep hk fun i u y _ _ hu k hk2=>hst hu k hk2,Nat.le_trans h1.z hk.size⟩,fun e=>absurd e (by decide)⟩,?_⟩
 intro j h
 match j,h with
 | 0,h=>exact h
 | 1,h=>exact h
 | 2,h=>exact h
 | 3,h=>exact owns_keep h hk (hst h)
 | 4,⟨lv,h1,h2⟩=>exact⟨lv,h1,owns_keep h2 hk (hst h2)⟩
 | 5,⟨lv,q,h1,h2,_⟩=>exact⟨lv,q,h1,owns_keep h2 hk (hst h2),fun e=>absurd e (by decide)⟩
 | 6,⟨_,h2,lv,h3,h4⟩=>exact⟨by decide,h2,lv,owns_keep h3 hk (hst h3),owns_keep h4 hk fun k hk2 e=>by have:=(h4.lt k hk2).1;omega⟩
 | _+7,_=>trivial
end Pln
theorem results_s {P:Program} {fn:Func} {ty:TypeId} (tmps:Array Value) (w:World) {g:Nat} {p:Tmp} {v:Value} (h:fn.results=#[.cell p ty]) (hp:tmps.getD p undef= .pointer (some ⟨g,0,none⟩)) (hc:w.cell? ⟨g,0,none⟩=some v) (ha:∀ w,(isAgg ty).run P w= .ok false w):
 (results fn tmps).run P w= .ok v w:=by
 have h1:tmps[p]?.getD undef= .pointer (some ⟨g,0,none⟩):=by simpa using hp
 simp [results,h,h1,asAddr,run_loadVar_one w ha hc]
attribute [local go_sem] Oper.semAt_some
theorem planParts_any (kind:Int) (v:Value) (L:List ByteArray) (w:World) (hl:L.length≤100000) (hL:StrAt w 0 v L):
 Calls Tryz.prog 30 #[.int .i64 kind,v] w fun e w'=>∃ u lvs,e= .returned u∧w'.ownsRow w.heap.size 49 3 u (Pln.chs L.length).length (Pln.reqX kind lvs)∧Pln.LvsAt w' w.heap.size L (Pln.chs L.length) lvs∧Below w.heap.size w w':=by
 obtain⟨h0,hh0⟩:∃ h0,w.heap.size=h0:=⟨_,rfl⟩
 obtain⟨g,ao,cap,rfl,hao,hcap,hgl,hcell⟩:∃ g ao cap,v= .slice ao L.length cap∧(0<L.length→ao=some ⟨g,0,none⟩)∧L.length≤cap∧(0<L.length→g<h0)∧∀ j s,L[j]? =some s→w.cell? ⟨g,j,none⟩=some (.string s):=by
  have hL2:=hL
  rcases ownsRow_cases hL2 (by decide) with ⟨rfl,h1,_⟩ | ⟨g,cap,rfl,_,hg,_,hc⟩
  · exact⟨0,none,0,by rw [h1],fun h=>by omega,by omega,fun h=>by omega,fun j s hs=>by have:=List.eq_nil_of_length_eq_zero h1;rw [this] at hs;simp at hs⟩
  · refine⟨g,_,cap,rfl,fun _=>rfl,?_,fun _=>by omega,fun j s hs=>hc j _ (by rw [List.getElem?_map,hs];rfl)⟩
    rcases hL.2 with ⟨h1,_⟩ | ⟨_,_,_,h1,_,_,h2,_⟩
    · cases h1
    · injection h1 with _ _ h3
      omega
 have Hcell:=Lib.hid hcell
 obtain⟨i0,hi0,hz0,hz1,hz2⟩:=info_parts infoReq
 have HI:=Lib.hid (And.intro hi0 (And.intro hz0 (And.intro hz1 hz2)))
 clear hL hcell hi0 hz0 hz1 hz2
 refine(callsIn_wide (n:=9)).1 ?_
 refine callsIn_of_wp_marks Tryz.func30 rfl trivial ?_ rfl
 simp only [Tryz.ntmps30,List.size_toArray,List.length_cons,List.length_nil,Nat.reduceAdd,Nat.reduceSub,Array.replicate_succ,Array.replicate_zero,List.push_toArray,List.append_toArray,List.nil_append,List.cons_append]
 refine wpIn_wide.2 ?_
 go_wp2_with (go_at_call 55;refine(chunk_any _ _ _ _).mono ?_;rintro e w9 ⟨rfl,rfl⟩)
 obtain⟨W4,hW4⟩:∃ W4,(((w.alloc (.cells #[.int .i64 kind] 3)).alloc (.cells #[.slice none 0 0] 66)).alloc (.cells #[.slice ao L.length cap] 43)).alloc (.cells #[.int .i64 200] 3)=W4:=⟨_,rfl⟩
 have hz4:W4.heap.size=h0+4:=by rw [← hW4,← hh0];simp
 have hb04:Below w.heap.size w W4:=by
  rw [← hW4]
  exact((((Below.refl _ w).alloc (Nat.le_refl _) _).alloc (by simp) _).alloc (by simp;omega) _).alloc (by simp;omega) _
 have rK:Row W4 h0 3 #[.int .i64 kind]:=by
  have h1:=Row.new w 3 #[.int .i64 kind]
  rw [hh0] at h1
  rw [← hW4]
  have h1:=h1.alloc (.cells #[.slice none 0 0] 66)
  have h1:=h1.alloc (.cells #[.slice ao L.length cap] 43)
  have h1:=h1.alloc (.cells #[.int .i64 200] 3)
  exact h1
 have rO:Row W4 (h0+1) 66 #[.slice none 0 0]:=by
  have h1:=Row.new (w.alloc (.cells #[.int .i64 kind] 3)) 66 #[.slice none 0 0]
  rw [World.size_alloc,hh0] at h1
  rw [← hW4]
  have h1:=h1.alloc (.cells #[.slice ao L.length cap] 43)
  have h1:=h1.alloc (.cells #[.int .i64 200] 3)
  exact h1
 have rL:Row W4 (h0+2) 43 #[.slice ao L.length cap]:=by
  have h1:=Row.new ((w.alloc (.cells #[.int .i64 kind] 3)).alloc (.cells #[.slice none 0 0] 66)) 43 #[.slice ao L.length cap]
  simp only [World.size_alloc,hh0] at h1
  rw [← hW4]
  have h1:=h1.alloc (.cells #[.int .i64 200] 3)
  exact h1
 have rN:Row W4 (h0+3) 3 #[.int .i64 200]:=by
  have h1:=Row.new (((w.alloc (.cells #[.int .i64 kind] 3)).alloc (.cells #[.slice none 0 0] 66)).alloc (.cells #[.slice ao L.length cap] 43)) 3 #[.int .i64 200]
  simp only [World.size_alloc,hh0] at h1
  rw [← hW4]
  exact h1
 have hcell4:∀ j s,L[j]? =some s→W4.cell? ⟨g,j,none⟩=some (.string s):=fun j s hs=>cell_below hb04 (Hcell.out j s hs)
 have hseq:=chunk1_seq g L.length cap ao hao hcap hl (h0+2) (h0+3) (fun k=>k<h0+4∧k≠h0+1) ⟨by omega,by omega⟩ ⟨by omega,by omega⟩ W4 (rL.cell 0) (rN.cell 0) W4 (Keep.refl _ _)
 have hI0:Pln.PrtI h0 kind L W4 [] W4:=⟨⟨_,[],rO,by simpa [Pln.reqX] using World.ownsRow_nil _ _ _ 3,⟨rfl,fun i lv x h=>by simp at h⟩⟩,Keep.refl _ _⟩
 have Hseq:=Lib.hid hseq
 have HI0:=Lib.hid hI0
 have Hb04:=Lib.hid hb04
 have HrK:=Lib.hid rK
 have Hcell:=Lib.hid hcell4
 have Hao:=Lib.hid hao
 rw [hW4]
 rw [show h0+1+1=h0+2 from rfl,show h0+2+1=h0+3 from rfl]
 clear hseq hI0 hb04 rK rO rL rN hcell4 hW4 hao
 refine(wpIn_wide (n:=9)).1 ?_
 refine wp_rangeI (n:=9) (gf:=88) (lb:=#[.pointer (some ⟨h0+2,0,none⟩),.pointer (some ⟨h0+3,0,none⟩)]) rfl
  (enters_of Tryz.func88 (by kernel_rfl) rfl) Hseq.out (fun k hk=>hk.elim) (fun k hk=>by have:=hk.1;omega) (fun _ _ _ _ _ _ _=>trivial) (fun _ _ _ _ _ _ _ _=>trivial)
  (fun _ _=>trivial) (fun _=>rfl) (fun k=>k=h0+1∨h0+6≤k) (fun k hk=>⟨by omega,fun h=>by have:=h.1;have:=h.2;omega⟩)
  (Pln.PrtI h0 kind L W4) (fun s A B hs hk=>hs.keep hk (fun k h1 h2=>⟨fun h=>h,by omega,by omega⟩)) HI0.out ?body ?done
 case done=>
  rintro W hI-hz hK
  obtain⟨v,lvs,ro,hown,hlv⟩:=hI.s
  rw [hz4] at hK hz
  have hIk:=hI.k
  have hkg:Keep (fun k=>k≠h0+4) (W.setCell ⟨h0+1,0,none⟩ v) ((W.setCell ⟨h0+1,0,none⟩ v).putObj (h0+4) (.deferred none)):=(Keep.refl _ _).putObj (fun h=>absurd rfl h) _
  have hks:Keep (fun k=>k≠h0+1) W (W.setCell ⟨h0+1,0,none⟩ v):=(Keep.refl _ _).setCell (p:=⟨h0+1,0,none⟩) (fun h=>absurd rfl h) _
  have hK2:(W.setCell ⟨h0+1,0,none⟩ v).heap[h0+4]? =some (.deferred (some [])):=hks.heap (show h0+4≠h0+1 by omega) hK
  obtain⟨va,vk,rfl⟩:=slice_of hown
  have c0:W.cell? ⟨h0+1,0,none⟩=some (.slice va (Pln.chs L.length).length vk):=ro.cell 0
  have f0:=ro.frozen 0
  have hlt:=ro.lt
  have hrow2:=ro.store 0 (.slice va (Pln.chs L.length).length vk)
  have hcell9:=(hrow2.keep hkg (show h0+1≠h0+4 by omega)).cell 0
  have hown9:=owns_keep (owns_keep hown hks (fun k hk2 e=>by have:=(hown.lt k hk2).1;omega)) hkg (fun k hk2 e=>by have:=(hown.lt k hk2).1;omega)
  have hlv9:=(hlv.keep hks (fun i lv x _ _ h k hk2 e=>by have:=(h.lt k hk2).1;omega)).keep hkg (fun i lv x _ _ h k hk2 e=>by have:=(h.lt k hk2).1;omega)
  have hbb:Below w.heap.size w ((W.setCell ⟨h0+1,0,none⟩ (.slice va (Pln.chs L.length).length vk)).putObj (h0+4) (.deferred none)):=by
   have b1:Keep (fun k=>k<h0) w W4:=Keep.below (hh0 ▸ Hb04.out)
   have b2:Keep (fun k=>k<h0) W4 W:=hIk.mono fun k hk _=>⟨by omega,by omega⟩
   have b3:Keep (fun k=>k<h0) W (W.setCell ⟨h0+1,0,none⟩ (.slice va (Pln.chs L.length).length vk)):=hks.mono fun k hk _=>by omega
   exact(((b1.trans b2).trans b3).trans (hkg.mono fun k (hk:k<h0) _=>by omega)).toBelow fun k hk=>by omega
  have HK2:=Lib.hid hK2
  have Hc9:=Lib.hid hcell9
  have Ho9:=Lib.hid hown9
  have Hl9:=Lib.hid hlv9
  have Hbb:=Lib.hid hbb
  clear hK hIk hkg hks hK2 hown hlv ro hrow2 hcell9 hown9 hlv9 hbb
  go_wp2
  rw [hz4]
  refine⟨by simp,.inl ⟨_,_,rfl,run_takeDeferred HK2.out,?_⟩⟩
  refine⟨_,results_s (g:=h0+1) _ _ rfl rfl Hc9.out (Tryz.isAgg66),?_⟩
  exact⟨_,lvs,rfl,ownsRow_weak Ho9.out (by omega),Hl9.out.weak (by omega),Hbb.out⟩
 case body=>
  intro lp pre x rest W hxs hz hi _
  have hpl:pre.length<(Pln.chs L.length).length:=by rw [hxs];simp
  have hx:(Pln.chs L.length)[pre.length]? =some x:=by rw [hxs];simp
  rw [Pln.chs_length] at hpl
  have hx2:=Pln.chs_at (n:=L.length) (j:=pre.length) (by omega)
  rw [hx] at hx2
  injection hx2 with hx2
  have hx3:x.1+x.2≤L.length∧x.2≤200:=by rw [hx2];dsimp only;omega
  have hcl:(Pln.chunkOf L x).length=x.2:=by unfold Pln.chunkOf;rw [List.length_take,List.length_drop];omega
  have Hi:=Lib.hid hi
  clear hi hxs hx hx2
  dsimp only [encC]
  gi_wp2
  refine⟨Keep.refl _ _,trivial,fun W3 hk3 hz3 _=> ?_⟩
  rw [hz4] at hk3 hz
  change Keep (fun k=>k≠h0+5) _ W3 at hk3
  have hi3:=Hi.out.keep hk3 (fun k _ h=>h)
  have hpl2:pre.length≤500:=by omega
  obtain⟨vv,lvs,ro,hown,hlv⟩:=hi3.s
  have rK3:=HrK.out.keep hi3.k ⟨by omega,by omega⟩
  have hc3:∀ j s,(Pln.chunkOf L x)[j]? =some s→W3.cell? ⟨g,x.1+j,none⟩=some (.string s):=fun j s hs=>by
   unfold Pln.chunkOf at hs
   have hj:j<x.2:=by
    have:=(List.getElem?_eq_some_iff.1 hs).1
    rw [List.length_take] at this
    omega
   rw [List.getElem?_take_of_lt hj,List.getElem?_drop] at hs
   exact hi3.k.cell (p:=⟨g,x.1+j,none⟩) (by have:=hgl (by omega);exact⟨by dsimp only;omega,by dsimp only;omega⟩) (Hcell.out _ s hs)
  obtain⟨va,vk,rfl⟩:=slice_of hown
  have hB0:∀ y,Pln.PrtB W3 (h0+1) (h0+6) (.slice va pre.length vk) kind L pre lvs 0 y W3.drew:=fun y=>⟨⟨(Keep.refl _ W3).drew,ro.drew,hlv.below (Below.refl _ W3).drew,Nat.le_refl _⟩,fun _=>owns_below hown (Below.refl _ W3).drew⟩
  have HB0:=Lib.hid hB0
  have Hi3:=Lib.hid hi3
  have HrK3:=Lib.hid rK3
  have Hc3:=Lib.hid hc3
  have hzW:h0+6≤W3.heap.size:=by rw [hz3];omega
  clear hi3 rK3 hc3 hB0 ro hown hlv hk3 hz3
  obtain⟨hi0,hz0,hz1,hz2⟩:=HI.out
  gi_wp2
  refine wpIn_round_any (by kernel_rfl) (by kernel_rfl) ?_
  refine wpAny_phases 8 [6,7] [9,10,11,12,13,14,15,100000] 0 #[true,true,true,true,true,true,true,true] (Pln.PrtB W3 (h0+1) (h0+6) (.slice va pre.length vk) kind L pre lvs) (Pln.PrtR (h0+6) (.slice va pre.length vk) kind g x L pre.length (Pln.reqX kind lvs)) 17 (by kernel_rfl) (by kernel_rfl) (by kernel_rfl) (by kernel_rfl) (fun b j v w w' h hb=>Pln.PrtR.below hb j h) HB0.out (fun b x y w w' h he hb=>h.below he hb) ?_ ?_ ?_
  · refine PSteps.upto 0 6 rfl rfl (by kernel_rfl) (fun b y W ρ hb hB hdep hin hout hcon hfun=> ?_) (PSteps.free rfl (fun b y W ρ hB hdep hin hout hcon hfun=> ?_) (PSteps.free rfl (fun b y W ρ hB hdep hin hout hcon hfun=> ?_) (PSteps.upto 0 6 rfl rfl (by kernel_rfl) (fun b y W ρ hb hB hdep hin hout hcon hfun=> ?_) (PSteps.free rfl (fun b y W ρ hB hdep hin hout hcon hfun=> ?_) (PSteps.upto 0 6 rfl rfl (by kernel_rfl) (fun b y W ρ hb hB hdep hin hout hcon hfun=> ?_) (PSteps.skip (by decide) (PSteps.skip (by decide) (PSteps.nil (by decide)))))))))
    · have e4:=hout 4 (by decide)
      change ρ (.tmp 4)= .pointer (some ⟨h0+1,0,none⟩) at e4
      obtain rfl:b=0:=by omega
      have c1:W.cell? ⟨h0+1,0,none⟩=some (.slice va pre.length vk):=hB.1.r.cell 0
      clear hdep hin hout
      refine Stepped.val ?_ rfl
      go_simp
    · have e2:=hout 2 (by decide)
      change ρ (.tmp 2)= .pointer (some ⟨h0,0,none⟩) at e2
      have c1:W.cell? ⟨h0,0,none⟩=some (.int .i64 kind):=hB.1.k.cell (p:=⟨h0,0,none⟩) ⟨by dsimp only;omega,by dsimp only;omega⟩ (HrK3.out.cell 0)
      clear hdep hin hout
      refine Stepped.val ?_ rfl
      go_simp
    · have e5:=hout 5 (by decide)
      change ρ (.tmp 5)= .slice (some ⟨g,x.1,none⟩) x.2 x.2 at e5
      clear hdep hin hout
      refine Stepped.val ?_ rfl
      go_simp
    · have d2:=hdep ⟨2,.data⟩ (by simp) rfl
      have e11:=hin 2 11 rfl (by decide)
      rw [show y 2=_ from d2] at e11
      have hf:=hfun 56
      have hcl2:=cloneS_any g x.1 x.2 (Pln.chunkOf L x) W (by omega) (fun j s hs=>hB.1.k.cell (p:=⟨g,x.1+j,none⟩) (by
       have h1:x.1+j<L.length:=by
        have:=(List.getElem?_eq_some_iff.1 hs).1
        omega
       have:=hgl (by omega)
       exact⟨by dsimp only;omega,by dsimp only;omega⟩) (Hc3.out j s hs))
      have hbs:h0+6≤W.heap.size:=Nat.le_trans hzW hB.1.z
      rw [hcl] at hcl2
      clear hdep hin hout
      refine Stepped.call (f:=56) (args:=#[.slice (some ⟨g,x.1,none⟩) x.2 x.2]) ?_ ?_
      · go_simp
      · refine hcl2.mono ?_
        rintro e w3 ⟨v',rfl,hs,hb3⟩
        exact⟨_,rfl,hb3,ownsRow_weak hs hbs⟩
    · have d1:=hdep ⟨1,.data⟩ (by simp) rfl
      have d3:=hdep ⟨3,.data⟩ (by simp) rfl
      have e10:=hin 1 10 rfl (by decide)
      have e12:=hin 3 12 rfl (by decide)
      rw [show y 1=_ from d1] at e10
      have d3':StrAt W (h0+6) (y 3) (Pln.chunkOf L x):=d3
      clear hdep hin hout
      generalize y 3=lv at d3' e12
      obtain⟨la,lk,rfl⟩:=slice_of d3'
      refine Stepped.val (v:= .agg #[.int .i64 kind,.slice la (Pln.chunkOf L x).length lk,.slice none 0 0]) ?_ ⟨_,rfl,d3'⟩
      clear d3 d3'
      go_simp
    · obtain⟨lv,hy4,hlv⟩:=hdep ⟨4,.data⟩ (by simp) rfl
      have e13:=hin 4 13 rfl (by decide)
      rw [show y 4=_ from hy4] at e13
      clear hdep hin hout
      obtain⟨la,lk,rfl⟩:=slice_of hlv
      have hba:Below W.heap.size W (W.alloc (.cells #[.int .i64 kind,.slice la (Pln.chunkOf L x).length lk,.slice none 0 0] 49)):=(Below.refl _ _).alloc (Nat.le_refl _) _
      refine Stepped.grow (v:= .slice (some ⟨W.heap.size,0,none⟩) 1 1) (w':=W.alloc (.cells #[.int .i64 kind,.slice la (Pln.chunkOf L x).length lk,.slice none 0 0] 49)) ?_ hba ⟨_,W.heap.size,rfl,owns_below hlv hba,fun _ i u hu=>by rw [(Row.new W 49 #[.int .i64 kind,.slice la (Pln.chunkOf L x).length lk,.slice none 0 0]).cell i];simpa using hu⟩
      clear hlv hba
      go_simp
  · intro k
    rcases k with _ | _ | k
    · intro s hs oo ho y W ρ hB hdep hin hout hcon
      cases hs
      cases ho
      have d0:=hdep ⟨0,.data⟩ (by simp) rfl
      obtain⟨lv,q,hy5,hlv,hq⟩:=hdep ⟨5,.data⟩ (by simp) rfl
      have hq:=hq rfl
      have el:=hin 0 9 rfl (by decide)
      have es:=hin 5 14 rfl (by decide)
      rw [show y 0=_ from d0] at el
      rw [show y 5=_ from hy5] at es
      have hbs:h0+6≤W.heap.size:=Nat.le_trans hzW hB.1.z
      obtain⟨v',W',hrun,hown,hgr,-,-⟩:=run_append_own_at (P:=Tryz.prog) (w:=W) (h0+6) 66 66 49 i0 _ 3 56 Tryz.underlying66 hi0 hz0 hz1 hz2 rfl (by decide) _ _ _ (hB.2 rfl) ⟨q,0,none⟩ 1 1 [.int .i64 kind,lv,.slice none 0 0] rfl (fun j u hu=>by rw [Addr.add_mid,Nat.zero_add];exact hq j u hu) (by obtain⟨la,lk,rfl⟩:=slice_of hlv;simp [Value.oneCell']) (by unfold maxLen;omega) (by omega) hbs
      refine⟨v',W',.inl ?_,Pln.prt_turn0 (by omega) hB hlv hown hgr⟩
      clear hdep hin hout hB hown hgr hq hlv
      exact append_run (.tmp 9) (.tmp 14) _ rfl el es hrun
    · intro s hs oo ho y W ρ hB hdep hin hout hcon
      cases hs
      cases ho
      obtain⟨_,⟨a9,k9,hv9⟩,_⟩:=hdep ⟨6,.data⟩ (by simp) rfl
      have ev:=hin 6 15 rfl (by decide)
      have ep:=hout 4 (by decide)
      change ρ (.tmp 4)= .pointer (some ⟨h0+1,0,none⟩) at ep
      have hc:=hB.1.r.cell 0
      change World.cell? _ _=some _ at hc
      have hf:=hB.1.r.frozen 0
      have hT:=Pln.prt_turn1 (g:=g) (x0:=x) (by omega) undef hB
      refine⟨undef,W.setCell ⟨h0+1,0,none⟩ (y 6),.inr ⟨?_,rfl⟩,hT.1,trivial,fun j _ h=>hT.2 j h⟩
      clear hdep hin hout hT
      rw [hv9] at ev ⊢
      go_simp
    · intro s hs
      cases hs
  · intro y W hB hR
    obtain⟨_,_,lv,hlv,hown⟩:=hR 6 (by decide)
    refine wpAny_done (by kernel_rfl) ?_ _
    refine⟨rfl,?_⟩
    obtain⟨hP,-⟩:=hB
    have hkk:Keep (fun k=>¬(k=h0+1∨h0+6≤k)) W3 W:=hP.k.mono fun k hk _=>⟨by omega,by omega⟩
    refine⟨hkk,⟨⟨y 6,lvs++[lv],hP.r,?_,hP.l.snoc hlv⟩,Hi3.out.k.trans (hP.k.mono fun k hk _=>⟨by omega,hk.2⟩)⟩,trivial⟩
    rw [List.length_append,Pln.reqX_snoc]
    exact hown
end Go.Proofs.YtpnbkfboneabaaaGreat
namespace Go.Proofs.YtpnbkfboneabaaaGreat
open Go.RowKit
theorem refTexts_any (v u:Value) (a b:List ByteArray) (w:World) (h1:StrIn w v a) (h2:StrIn w u b):
 Calls Tryz.prog 26 #[v,u] w fun e w'=>e= .returned (.bool (decide (a=b)))∧∃ q,w'=w.drewN q:=by
 obtain⟨ao1,cap1,rfl,hl1,hc1⟩:=h1
 obtain⟨ao2,cap2,rfl,hl2,hc2⟩:=h2
 have h64:(a.length:Int)≤9223372036854775807:=by unfold maxLen at hl1;omega
 have h65:(b.length:Int)≤9223372036854775807:=by unfold maxLen at hl2;omega
 have H1:=Lib.hid hc1
 have H2:=Lib.hid hc2
 clear hc1 hc2 hl1 hl2
 by_cases hlen:a.length=b.length
 · have hlen':(a.length:Int)=(b.length:Int):=by omega
   have Hlen:=Lib.hid hlen
   clear hlen
   go_enter Tryz.func26,Tryz.ntmps26
   go_wp2
   go_loopw [5] (fun vi wr=>∃ i:Nat,i≤b.length∧vi= .int .i64 (i:Int)∧(∀ j,j<i→a[j]? =b[j]?)∧∃ q,wr=w.drewN q) (fun vi _=>b.length-(intOf vi).toNat)
   case atStart=>exact⟨0,Nat.zero_le _,rfl,fun j hj=>by omega,0,rfl⟩
   case round=>
    obtain⟨i,hi,rfl,hno,q,rfl⟩:=hrel
    have Hno:=Lib.hid hno
    clear hno
    by_cases hlt:i<b.length
    · obtain⟨x,hx⟩:∃ x,a[i]? =some x:=⟨_,List.getElem?_eq_getElem (by have:=Hlen.out;omega)⟩
      obtain⟨y,hy⟩:∃ y,b[i]? =some y:=⟨_,List.getElem?_eq_getElem hlt⟩
      obtain⟨a1,rfl,x1⟩:=H1.out i x hx
      obtain⟨a2,rfl,x2⟩:=H2.out i y hy
      have hlt':(i:Int)<(b.length:Int):=by omega
      have Hx:=Lib.hid hx
      have Hy:=Lib.hid hy
      clear hx hy
      by_cases he:x=y
      · subst he
        go_wp2
        go_quiet (fail)
        go_wp2
        go_roundw
        case rel=>
         refine⟨i+1,by omega,by simp,fun j hj=> ?_,q+nq,by simp [World.drewN]⟩
         by_cases hji:j=i
         · subst hji
           rw [Hx.out,Hy.out]
         · exact Hno.out j (by omega)
        case measure=>simp [intOf];omega
      · have hab:a≠b:=fun e=>by
         subst e
         have h:=Hx.out.symm.trans Hy.out
         exact he (Option.some.inj h)
        have Hab:=Lib.hid hab
        clear hab
        have hne:(x.toList == y.toList)=false:=by rw [texts_beq,decide_eq_false he]
        go_wp2
        go_quiet (fail)
        go_wp2
        go_ret
        rw [decide_eq_false Hab.out]
        exact⟨rfl,q+nq,by simp [World.drewN,Nat.add_assoc]⟩
    · obtain rfl:i=b.length:=by omega
      have hab:a=b:=by
       refine List.ext_getElem? fun j=> ?_
       by_cases hj:j<b.length
       · exact Hno.out j hj
       · rw [List.getElem?_eq_none (by have:=Hlen.out;omega),List.getElem?_eq_none (by omega)]
      have Hab:=Lib.hid hab
      clear hab
      go_wp2
      go_ret
      rw [decide_eq_true Hab.out]
      exact⟨rfl,q,rfl⟩
 · have hlen':¬ (a.length:Int)=(b.length:Int):=by omega
   have hab:a≠b:=fun e=>hlen (by rw [e])
   have Hab:=Lib.hid hab
   clear hab hlen
   go_enter Tryz.func26,Tryz.ntmps26
   go_wp2
   go_ret
   rw [decide_eq_false Hab.out]
   exact⟨rfl,0,rfl⟩
theorem refInts_any (v u:Value) (a b:List Int) (w:World) (h1:IntsAt w v a) (h2:IntsAt w u b):
 Calls Tryz.prog 29 #[v,u] w fun e w'=>e= .returned (.bool (decide (a=b)))∧∃ q,w'=w.drewN q:=by
 obtain⟨ao1,cap1,rfl,hl1,hc1⟩:=h1
 obtain⟨ao2,cap2,rfl,hl2,hc2⟩:=h2
 have h64:(a.length:Int)≤9223372036854775807:=by unfold maxLen at hl1;omega
 have h65:(b.length:Int)≤9223372036854775807:=by unfold maxLen at hl2;omega
 have H1:=Lib.hid hc1
 have H2:=Lib.hid hc2
 clear hc1 hc2 hl1 hl2
 by_cases hlen:a.length=b.length
 · have hlen':(a.length:Int)=(b.length:Int):=by omega
   have Hlen:=Lib.hid hlen
   clear hlen
   go_enter Tryz.func29,Tryz.ntmps29
   go_wp2
   go_loopw [5] (fun vi wr=>∃ i:Nat,i≤b.length∧vi= .int .i64 (i:Int)∧(∀ j,j<i→a[j]? =b[j]?)∧∃ q,wr=w.drewN q) (fun vi _=>b.length-(intOf vi).toNat)
   case atStart=>exact⟨0,Nat.zero_le _,rfl,fun j hj=>by omega,0,rfl⟩
   case round=>
    obtain⟨i,hi,rfl,hno,q,rfl⟩:=hrel
    have Hno:=Lib.hid hno
    clear hno
    by_cases hlt:i<b.length
    · obtain⟨x,hx⟩:∃ x,a[i]? =some x:=⟨_,List.getElem?_eq_getElem (by have:=Hlen.out;omega)⟩
      obtain⟨y,hy⟩:∃ y,b[i]? =some y:=⟨_,List.getElem?_eq_getElem hlt⟩
      obtain⟨a1,rfl,x1⟩:=H1.out i x hx
      obtain⟨a2,rfl,x2⟩:=H2.out i y hy
      have hlt':(i:Int)<(b.length:Int):=by omega
      have Hx:=Lib.hid hx
      have Hy:=Lib.hid hy
      clear hx hy
      by_cases he:x=y
      · subst he
        go_wp2
        go_quiet (fail)
        go_wp2
        go_roundw
        case rel=>
         refine⟨i+1,by omega,by simp,fun j hj=> ?_,q+nq,by simp [World.drewN]⟩
         by_cases hji:j=i
         · subst hji
           rw [Hx.out,Hy.out]
         · exact Hno.out j (by omega)
        case measure=>simp [intOf];omega
      · have hab:a≠b:=fun e=>by
         subst e
         have h:=Hx.out.symm.trans Hy.out
         exact he (Option.some.inj h)
        have Hab:=Lib.hid hab
        clear hab
        go_wp2
        go_quiet (fail)
        go_wp2
        go_ret
        rw [decide_eq_false Hab.out]
        exact⟨rfl,q+nq,by simp [World.drewN,Nat.add_assoc]⟩
    · obtain rfl:i=b.length:=by omega
      have hab:a=b:=by
       refine List.ext_getElem? fun j=> ?_
       by_cases hj:j<b.length
       · exact Hno.out j hj
       · rw [List.getElem?_eq_none (by have:=Hlen.out;omega),List.getElem?_eq_none (by omega)]
      have Hab:=Lib.hid hab
      clear hab
      go_wp2
      go_ret
      rw [decide_eq_true Hab.out]
      exact⟨rfl,q,rfl⟩
 · have hlen':¬ (a.length:Int)=(b.length:Int):=by omega
   have hab:a≠b:=fun e=>hlen (by rw [e])
   have Hab:=Lib.hid hab
   clear hab hlen
   go_enter Tryz.func29,Tryz.ntmps29
   go_wp2
   go_ret
   rw [decide_eq_false Hab.out]
   exact⟨rfl,0,rfl⟩
end Go.Proofs.YtpnbkfboneabaaaGreat
