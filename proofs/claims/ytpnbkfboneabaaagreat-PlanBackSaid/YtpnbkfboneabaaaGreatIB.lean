import Derived.Test.YtpnbkfboneabaaaGreatIA
import Derived.Test.YtpnbkfboneabaaaGreatGA
import Derived.OwnWalkIn
import Derived.TacticsInMore
import Derived.LoopNIn
import Derived.LoopIn
import Derived.Shelf.Abstract
import Derived.Shelf.RegionOpen
import Derived.Maps.OwnIn
import Derived.DeepKeys5
import Derived.Test.YtpnbkfboneabaaaGreatDigFK
set_option maxRecDepth 100000
set_option maxHeartbeats 4000000
namespace Go.Proofs.YtpnbkfboneabaaaGreat
open Go.RowKit
theorem take_one {α:Type} {l:List α} {i:Nat} {x:α} (h:l[i]? =some x):l.take (i+1)=l.take i++[x]:=by
 rw [List.take_add_one,h]
 rfl
theorem take_at {α:Type} {l:List α} {i:Nat} {x:α} (h:l[i]? =some x):l=l.take i++x::l.drop (i+1):=by
 obtain⟨hi,rfl⟩:=List.getElem?_eq_some_iff.1 h
 rw [← List.drop_eq_getElem_cons hi,List.take_append_drop]
def encNm (y:ByteArray):Array Value:=#[.string y]
def NmOn (J:List (ByteArray)→World→Prop) (l:List (ByteArray)) (h0:Nat) (w:World) (vi:Value) (wr:World):Prop:=
 ∃ i:Nat,i≤l.length∧vi= .int .i64 (i:Int)∧J (l.take i) wr∧Keep (fun k=>k<h0) w wr
theorem names1_any (l:List (ByteArray × ByteArray)) (v:Value) (B C tg:Nat) (f:ByteArray × ByteArray→ByteArray) (h0:Nat) (w:World) (hB:B<h0) (hC:C<h0) (hh:h0≤w.heap.size)
 (eg:∀ args w,(callFunc tg args).run Tryz.prog w= .ok (.enter tg args) w)
 (htell:∀(a b:ByteArray) (W:World),Calls Tryz.prog tg #[.agg #[.string a,.string b]] W fun e w'=>e= .returned ((fun y:ByteArray=>(.string y:Value)) (f (a,b)))∧Below W.heap.size W w')
 (hv:w.cell? ⟨B,2,none⟩=some v) (hof:w.cell? ⟨C,0,none⟩=some (.func (.func tg) #[] #[])) (hl:NmAt w 0 v l) (hlb:∀ b,v.ownBlock=some b→b<h0):
 SeqF Tryz.prog 127 #[.pointer (some ⟨B,0,none⟩),.pointer (some ⟨C,0,none⟩)] encNm (l.map f) (fun _=>False) (fun k=>k<h0) (fun _=>True) w:=by
 intro lp J Jx W hW hz hJ hJx hY hJ0
 have hcs:=ownsRow_cases hl (by decide)
 have hll:(l.map f).length=l.length:=List.length_map _
 have hst:NmOn J (l.map f) h0 w (.int .i64 0) W:=⟨0,Nat.zero_le _,rfl,by rw [List.take_zero];exact hJ0,hW⟩
 have hvW:=hW.cell (p:=⟨B,2,none⟩) hB hv
 have Hst:=Lib.hid hst
 have HJ:=Lib.hid hJ
 have Hcs:=Lib.hid hcs
 have HT:=Lib.hid htell
 clear hst hW hJ0 hJ hJx hcs htell hl hv
 refine(callsIn_wide (n:=9)).1 ?_
 refine callsIn_of_wp Tryz.func127 rfl trivial ?_ rfl
 simp only [Tryz.ntmps127,List.size_toArray,List.length_cons,List.length_nil,Nat.reduceAdd,Nat.reduceSub,Array.replicate_succ,Array.replicate_zero,List.push_toArray,List.append_toArray,List.nil_append,List.cons_append]
 rcases Hcs.out with ⟨rfl,h1,-⟩ | ⟨g,cap,rfl,-,hg,hm,hc⟩
 · have Hj0:Hid (J (l.map f) W):=by
    obtain⟨i,hi,-,hj,-⟩:=Hst.out
    rw [List.take_of_length_le (by omega)] at hj
    exact Lib.hid hj
   clear hof hY HJ Hst HT eg
   gi_wp2
   gi_loopw [9] (fun vi wr=>vi= .int .i64 0∧wr=W) (fun vi _=>0)
   case atStart=>exact⟨rfl,rfl⟩
   case round=>
    obtain⟨rfl,rfl⟩:=hrel
    gi_wp2
    exact⟨rfl,_,results_none rfl _ _ _,⟨_,rfl⟩,.inl ⟨Hj0.out,trivial⟩⟩
 · have hgh:g<h0:=hlb g rfl
   have Hc:=Lib.hid hc
   clear hc hlb Hcs
   gi_wp2
   gi_loopw [9] (fun vi wr=>NmOn J (l.map f) h0 w vi wr) (fun vi _=>l.length-(intOf vi).toNat)
   case atStart=>exact Hst.out
   case round=>
    clear Hst
    obtain⟨i,hi,rfl,hj,hk⟩:=hrel
    by_cases hlt:i<l.length
    · obtain⟨x,hx⟩:∃ x,l[i]? =some x:=⟨_,List.getElem?_eq_getElem hlt⟩
      have hfx:(l.map f)[i]? =some (f x):=by rw [List.getElem?_map,hx];rfl
      have hx0:∀ k u,k<2→(Idl.nmEnc x)[k]? =some u→wr.cell? ⟨g,i*2+k,none⟩=some u:=fun k u hk2 hu=>
       hk.cell (p:=⟨g,i*2+k,none⟩) hgh (Hc.out _ _ ((flat_get (f:=Idl.nmEnc) (k:=2) (fun _=>rfl) l i k x hx hk2).trans hu))
      have x0:wr.cell? ⟨g,i*2,none⟩=some (.string x.1):=hx0 0 _ (by decide) rfl
      have x1:wr.cell? ⟨g,i*2+1,none⟩=some (.string x.2):=hx0 1 _ (by decide) rfl
      have of0:=hk.cell (p:=⟨C,0,none⟩) hC hof
      have g1:(i:Int)<(l.length:Int):=by omega
      have hbig:(i:Int)<9223372036854775807:=by unfold maxLen at hm;omega
      have hCW:C<wr.heap.size:=by have:=hk.size;omega
      have hCne:C≠wr.heap.size:=by omega
      have Hk:=Lib.hid hk
      have Hj:=Lib.hid hj
      clear hx0 hk hj
      gi_wp2
      refine⟨trivial,?_⟩
      refine(callsIn_wide.2 (HT.out x.1 x.2 _)).mono ?_
      rintro e w3 ⟨rfl,hb3⟩
      have hk3:Keep (fun _=>True) wr w3:=((Keep.refl _ wr).alloc _).trans (Keep.below hb3)
      have hj3:=HJ.out _ _ _ Hj.out (hk3.mono fun _ _ _=>trivial)
      have hY1:=hY _ _ _ (take_at hfx) w3 hj3
      have Hk3:=Lib.hid (Hk.out.trans (hk3.mono fun _ _ _=>trivial))
      have Hft:=Lib.hid (take_one hfx)
      have Htd:Hid ((l.map f).take i++[f x]++(l.map f).drop (i+1)=l.map f):=Lib.hid (by rw [List.append_assoc];exact(take_at hfx).symm)
      obtain⟨fn,tmps,assign,body,hy,hR⟩:=hY1
      dsimp only [encNm] at hy
      dsimp only
      clear hk3 hj3 Hj Hk hb3
      generalize f x=y at*
      gi_wp2
      refine(hR 8).mono ?_
      rintro e W3 (⟨rfl,hj4,hk4⟩ | ⟨rfl,hx4⟩)
      · have hnx:NmOn J (l.map f) h0 w (.int .i64 ((i:Int)+1)) W3:=⟨i+1,by omega,rfl,by rw [Hft.out];exact hj4,Hk3.out.trans hk4⟩
        have Hnx:=Lib.hid hnx
        clear hnx hj4 hk4 hy hR
        gi_wp2
        go_roundw
        all_goals first | exact Hnx.out | (simp [intOf];omega)
      · have Hx:=Lib.hid hx4
        gi_wp2
        refine bodyPost_ret (results_none rfl _ _ _) rfl ?_
        exact⟨⟨_,rfl⟩,.inr ⟨_,(l.map f).drop (i+1),Htd.out,Hx.out⟩⟩
    · have g1:¬ (i:Int)<(l.length:Int):=by omega
      rw [List.take_of_length_le (by omega)] at hj
      have Hj:=Lib.hid hj
      gi_wp2
      exact⟨rfl,_,results_none rfl _ _ _,⟨_,rfl⟩,.inl Hj.out⟩
def encCl (y:ByteArray × ByteArray):Array Value:=#[.agg #[.string y.1,.string y.2]]
def ClOn (J:List (ByteArray × ByteArray)→World→Prop) (l:List (ByteArray × ByteArray)) (h0:Nat) (w:World) (vi:Value) (wr:World):Prop:=
 ∃ i:Nat,i≤l.length∧vi= .int .i64 (i:Int)∧J (l.take i) wr∧Keep (fun k=>k<h0) w wr
theorem cells1_any (l:List (ByteArray × ByteArray × ByteArray)) (v:Value) (B C tg:Nat) (f:ByteArray × ByteArray × ByteArray→ByteArray × ByteArray) (h0:Nat) (w:World) (hB:B<h0) (hC:C<h0) (hh:h0≤w.heap.size)
 (eg:∀ args w,(callFunc tg args).run Tryz.prog w= .ok (.enter tg args) w)
 (htell:∀(a b c:ByteArray) (W:World),Calls Tryz.prog tg #[.agg #[.string a,.string b,.string c]] W fun e w'=>e= .returned ((fun y:ByteArray × ByteArray=>(.agg #[.string y.1,.string y.2]:Value)) (f (a,b,c)))∧Below W.heap.size W w')
 (hv:w.cell? ⟨B,3,none⟩=some v) (hof:w.cell? ⟨C,0,none⟩=some (.func (.func tg) #[] #[])) (hl:ClAt w 0 v l) (hlb:∀ b,v.ownBlock=some b→b<h0):
 SeqF Tryz.prog 128 #[.pointer (some ⟨B,0,none⟩),.pointer (some ⟨C,0,none⟩)] encCl (l.map f) (fun _=>False) (fun k=>k<h0) (fun _=>True) w:=by
 intro lp J Jx W hW hz hJ hJx hY hJ0
 have hcs:=ownsRow_cases hl (by decide)
 have hll:(l.map f).length=l.length:=List.length_map _
 have hst:ClOn J (l.map f) h0 w (.int .i64 0) W:=⟨0,Nat.zero_le _,rfl,by rw [List.take_zero];exact hJ0,hW⟩
 have hvW:=hW.cell (p:=⟨B,3,none⟩) hB hv
 have Hst:=Lib.hid hst
 have HJ:=Lib.hid hJ
 have Hcs:=Lib.hid hcs
 have HT:=Lib.hid htell
 clear hst hW hJ0 hJ hJx hcs htell hl hv
 refine(callsIn_wide (n:=9)).1 ?_
 refine callsIn_of_wp Tryz.func128 rfl trivial ?_ rfl
 simp only [Tryz.ntmps128,List.size_toArray,List.length_cons,List.length_nil,Nat.reduceAdd,Nat.reduceSub,Array.replicate_succ,Array.replicate_zero,List.push_toArray,List.append_toArray,List.nil_append,List.cons_append]
 rcases Hcs.out with ⟨rfl,h1,-⟩ | ⟨g,cap,rfl,-,hg,hm,hc⟩
 · have Hj0:Hid (J (l.map f) W):=by
    obtain⟨i,hi,-,hj,-⟩:=Hst.out
    rw [List.take_of_length_le (by omega)] at hj
    exact Lib.hid hj
   clear hof hY HJ Hst HT eg
   gi_wp2
   gi_loopw [9] (fun vi wr=>vi= .int .i64 0∧wr=W) (fun vi _=>0)
   case atStart=>exact⟨rfl,rfl⟩
   case round=>
    obtain⟨rfl,rfl⟩:=hrel
    gi_wp2
    exact⟨rfl,_,results_none rfl _ _ _,⟨_,rfl⟩,.inl ⟨Hj0.out,trivial⟩⟩
 · have hgh:g<h0:=hlb g rfl
   have Hc:=Lib.hid hc
   clear hc hlb Hcs
   gi_wp2
   gi_loopw [9] (fun vi wr=>ClOn J (l.map f) h0 w vi wr) (fun vi _=>l.length-(intOf vi).toNat)
   case atStart=>exact Hst.out
   case round=>
    clear Hst
    obtain⟨i,hi,rfl,hj,hk⟩:=hrel
    by_cases hlt:i<l.length
    · obtain⟨x,hx⟩:∃ x,l[i]? =some x:=⟨_,List.getElem?_eq_getElem hlt⟩
      have hfx:(l.map f)[i]? =some (f x):=by rw [List.getElem?_map,hx];rfl
      have hx0:∀ k u,k<3→(Idl.clEnc x)[k]? =some u→wr.cell? ⟨g,i*3+k,none⟩=some u:=fun k u hk2 hu=>
       hk.cell (p:=⟨g,i*3+k,none⟩) hgh (Hc.out _ _ ((flat_get (f:=Idl.clEnc) (k:=3) (fun _=>rfl) l i k x hx hk2).trans hu))
      have x0:wr.cell? ⟨g,i*3,none⟩=some (.string x.1):=hx0 0 _ (by decide) rfl
      have x1:wr.cell? ⟨g,i*3+1,none⟩=some (.string x.2.1):=hx0 1 _ (by decide) rfl
      have x2:wr.cell? ⟨g,i*3+2,none⟩=some (.string x.2.2):=hx0 2 _ (by decide) rfl
      have of0:=hk.cell (p:=⟨C,0,none⟩) hC hof
      have g1:(i:Int)<(l.length:Int):=by omega
      have hbig:(i:Int)<9223372036854775807:=by unfold maxLen at hm;omega
      have hCW:C<wr.heap.size:=by have:=hk.size;omega
      have hCne:C≠wr.heap.size:=by omega
      have Hk:=Lib.hid hk
      have Hj:=Lib.hid hj
      clear hx0 hk hj
      gi_wp2
      refine⟨trivial,?_⟩
      refine(callsIn_wide.2 (HT.out x.1 x.2.1 x.2.2 _)).mono ?_
      rintro e w3 ⟨rfl,hb3⟩
      have hk3:Keep (fun _=>True) wr w3:=((Keep.refl _ wr).alloc _).trans (Keep.below hb3)
      have hj3:=HJ.out _ _ _ Hj.out (hk3.mono fun _ _ _=>trivial)
      have hY1:=hY _ _ _ (take_at hfx) w3 hj3
      have Hk3:=Lib.hid (Hk.out.trans (hk3.mono fun _ _ _=>trivial))
      have Hft:=Lib.hid (take_one hfx)
      have Htd:Hid ((l.map f).take i++[f x]++(l.map f).drop (i+1)=l.map f):=Lib.hid (by rw [List.append_assoc];exact(take_at hfx).symm)
      obtain⟨fn,tmps,assign,body,hy,hR⟩:=hY1
      dsimp only [encCl] at hy
      dsimp only
      clear hk3 hj3 Hj Hk hb3
      generalize f x=y at*
      gi_wp2
      refine(hR 8).mono ?_
      rintro e W3 (⟨rfl,hj4,hk4⟩ | ⟨rfl,hx4⟩)
      · have hnx:ClOn J (l.map f) h0 w (.int .i64 ((i:Int)+1)) W3:=⟨i+1,by omega,rfl,by rw [Hft.out];exact hj4,Hk3.out.trans hk4⟩
        have Hnx:=Lib.hid hnx
        clear hnx hj4 hk4 hy hR
        gi_wp2
        go_roundw
        all_goals first | exact Hnx.out | (simp [intOf];omega)
      · have Hx:=Lib.hid hx4
        gi_wp2
        refine bodyPost_ret (results_none rfl _ _ _) rfl ?_
        exact⟨⟨_,rfl⟩,.inr ⟨_,(l.map f).drop (i+1),Htd.out,Hx.out⟩⟩
    · have g1:¬ (i:Int)<(l.length:Int):=by omega
      rw [List.take_of_length_le (by omega)] at hj
      have Hj:=Lib.hid hj
      gi_wp2
      exact⟨rfl,_,results_none rfl _ _ _,⟨_,rfl⟩,.inl Hj.out⟩
end Go.Proofs.YtpnbkfboneabaaaGreat
namespace Go.Proofs.YtpnbkfboneabaaaGreat
open Go.RowKit Go.Maps Go.WideMaps
theorem lay:laidOutB Tryz.prog=true:=by kernel_rfl
theorem keyed_text:Keyed Tryz.prog 9:=string_keyed Tryz.underlying9
theorem keyed_pair:Keyed Tryz.prog 165:=Keyed.of_law (deep_law_gate lay (by decide +kernel) (by decide +kernel) (by kernel_rfl) (by kernel_rfl))
def Idl.textKey (y:ByteArray):Lit:= .string y.data.toList
def Idl.pairKey (y:ByteArray × ByteArray):Lit:= .string (keyBytes [.string y.1.data.toList,.string y.2.data.toList])
theorem textKey_of (y:ByteArray) (h:y.size≤maxLen):Go.keyOf Tryz.prog 9 (.string y)=some (Idl.textKey y):=keyOf_string_mk Tryz.underlying9 h
theorem pairKey_of (y:ByteArray × ByteArray) (h1:y.1.size≤maxLen) (h2:y.2.size≤maxLen):Go.keyOf Tryz.prog 165 (.agg #[.string y.1,.string y.2])=some (Idl.pairKey y):=by
 have hkt:Tryz.prog.keyType 165=true:=by kernel_rfl
 obtain⟨m,hm⟩:∃ m,Tryz.prog.types.size=m+1:=⟨Tryz.prog.types.size-1,by decide +kernel⟩
 have c1:Tryz.prog.cellsOf 165=2:=by kernel_rfl
 have c2:Tryz.prog.cellsOf 9=1:=by kernel_rfl
 unfold Go.keyOf
 simp only [Tryz.underlying165]
 rw [if_pos (by simp [hkt,Value.formed,Tryz.underlying165,c1]),hm]
 unfold Program.keyLits
 simp only [Tryz.underlying165,Value.cells]
 rw [if_pos (by rw [c1];exact⟨rfl,by kernel_rfl⟩)]
 simp [c2,Program.keyLits,Tryz.underlying9,h1,h2,Idl.pairKey]
theorem keyNm_inj {a b:ByteArray} (ha:(fun y:ByteArray=>y.size≤maxLen) a) (hb:(fun y:ByteArray=>y.size≤maxLen) b) (h:Idl.textKey a=Idl.textKey b):a=b:=by
 have h1:=textKey_of a ha
 have h2:=textKey_of b hb
 rw [h] at h1
 have h3:=keyed_text.inj h1 h2
 injection h3
theorem keyNm_lit (y:ByteArray) (h:y.size≤maxLen):WideAt.IsKeyLit (Idl.textKey y):=keyed_text.key (textKey_of y h)
structure TwNm (h0:Nat) (w0:World) (xs pre:List (ByteArray)) (W:World):Prop where
 r:Row W h0 4 #[.bool false]
 v:Row W (h0+2) 187 #[.map (some (h0+1))]
 m:∃ D:DataW Unit,W.ownsMap Tryz.prog 9 unitElem (h0+1) pre.length D∧∀ y∈xs,has D (Idl.textKey y)=true ↔ y∈pre
 nd:pre.Nodup
 k:Keep (fun k=>k<h0) w0 W
structure TxNm (h0:Nat) (w0:World) (xs:List (ByteArray)) (W:World):Prop where
 r:Row W h0 4 #[.bool true]
 t:twice xs=true
 k:Keep (fun k=>k<h0) w0 W
theorem TwNm.keep {h0:Nat} {w0:World} {xs pre:List (ByteArray)} {W W':World} {S:Nat→Prop} (h:TwNm h0 w0 xs pre W) (hk:Keep S W W') (hS:∀ k,k<h0+3→S k):TwNm h0 w0 xs pre W':=by
 refine⟨h.r.keep hk (hS _ (by omega)),h.v.keep hk (hS _ (by omega)),?_,h.nd,h.k.trans (hk.mono fun k hk2 _=>hS k (by omega))⟩
 obtain⟨D,⟨es,clock,hb,r⟩,hh⟩:=h.m
 exact⟨D,⟨es,clock,hk.heap (hS _ (by omega)) hb,r⟩,hh⟩
theorem TxNm.keep {h0:Nat} {w0:World} {xs:List (ByteArray)} {W W':World} {S:Nat→Prop} (h:TxNm h0 w0 xs W) (hk:Keep S W W') (hS:∀ k,k<h0+3→S k):TxNm h0 w0 xs W':=
 ⟨h.r.keep hk (hS _ (by omega)),h.t,h.k.trans (hk.mono fun k hk2 _=>hS k (by omega))⟩
theorem twiceNm_any (gf:Nat) (lb:Array Value) (eg:∀ args w,(callFunc gf args).run Tryz.prog w= .ok (.enter gf args) w) (xs:List (ByteArray)) (hok:∀ y∈xs,y.size≤maxLen) (hlen:xs.length≤100000) (w:World)
 (hseq:∀ W,Keep (fun k=>k<w.heap.size) w W→SeqF Tryz.prog gf lb encNm xs (fun _=>False) (fun k=>k<w.heap.size) (fun _=>True) W):
 Calls Tryz.prog 105 #[.func (.func gf) #[] lb] w fun e w'=>e= .returned (.bool (twice xs))∧Keep (fun k=>k<w.heap.size) w w':=by
 obtain⟨h0,hh0⟩:∃ h0,w.heap.size=h0:=⟨_,rfl⟩
 rw [hh0] at hseq ⊢
 have Hok:=Lib.hid hok
 have Hseq:=Lib.hid hseq
 clear hok hseq
 refine(callsIn_wide (n:=9)).1 ?_
 refine callsIn_of_wp_marks Tryz.func105 rfl trivial ?_ rfl
 simp only [Tryz.ntmps105,List.size_toArray,List.length_cons,List.length_nil,Nat.reduceAdd,Nat.reduceSub,Array.replicate_succ,Array.replicate_zero,List.push_toArray,List.append_toArray,List.nil_append,List.cons_append]
 have hmk:=fun W=>run_makeMap (P:=Tryz.prog) 187 W
 gi_wp2
 obtain⟨w2,hw2⟩:∃ w2,((w.alloc (.cells #[.bool false] 4)).alloc (.map #[] 0)).alloc (.cells #[.map (some (h0+1))] 187)=w2:=⟨_,rfl⟩
 have hz2:w2.heap.size=h0+3:=by rw [← hw2,← hh0];simp
 have hk2:Keep (fun _=>True) w w2:=by rw [← hw2];exact(((Keep.refl _ _).alloc _).alloc _).alloc _
 have hat:TwNm h0 w xs [] w2:=by
  refine⟨?_,?_,⟨.map [],?_,fun y _=>by simp [has]⟩,List.nodup_nil,hk2.mono fun _ _ _=>trivial⟩
  · rw [← hw2,← hh0];exact((Row.new w _ _).alloc _).alloc _
  · have h1:=Row.new ((w.alloc (.cells #[.bool false] 4)).alloc (.map #[] 0)) 187 #[.map (some (h0+1))]
    rw [World.size_alloc,World.size_alloc,hh0,hw2] at h1
    exact h1
  · have h1:=World.ownsMap_made (H:=Unit) (w.alloc (.cells #[.bool false] 4)) Tryz.prog 9 unitElem
    rw [World.size_alloc,hh0] at h1
    have h2:=h1.alloc (.cells #[.map (some (h0+1))] 187)
    rwa [hw2] at h2
 have Hat:=Lib.hid hat
 have Hk2:=Lib.hid hk2
 rw [hw2]
 clear hat hk2 hw2 hmk
 refine wp_rangeF (n:=9) (gf:=gf) (lb:=lb) rfl eg (Hseq.out w2 (Hk2.out.mono fun _ _ _=>trivial)) (fun _ h=>h.elim) (fun k (hk:k<h0)=>by omega) (fun _ _ _ _=>trivial) (fun _=>rfl) (fun k=>h0≤k∧k<h0+3) (fun k (hk:h0≤k∧k<h0+3)=>⟨by omega,fun(h:k<h0)=>by omega⟩)
  (TwNm h0 w xs) (fun c _ W=>c= .ret∧TxNm h0 w xs W) (fun s A B hs hk=>hs.keep hk (fun k hk=>⟨fun h=>h,by omega,by omega⟩)) (fun c s A B hs hk=>⟨hs.1,hs.2.keep hk (fun k hk=>⟨fun h=>h,by omega,by omega⟩)⟩) Hat.out ?body ?done ?stop
 case stop=>
  rintro c pre suf W _ ⟨rfl,hT⟩ hz hK
  rw [hz2] at hK hz ⊢
  have q0:=hT.r.cell 0
  have HT:=Lib.hid hT
  have HK:=Lib.hid hK
  clear hT hK
  gi_wp2
  refine⟨by simp,.inl ⟨_,_,rfl,run_takeDeferred HK.out,?_⟩⟩
  have hkg:Keep (fun k=>¬ k=h0+3) W (W.putObj (h0+3) (.deferred none)):=(Keep.refl _ _).putObj (fun h=>absurd rfl h) _
  have hrg:=HT.out.r.keep hkg (by omega)
  refine⟨.bool true,?_,by rw [HT.out.t],HT.out.k.trans (hkg.mono fun k (hk:k<h0) _=>by omega)⟩
  have qg:=hrg.cell 0
  simp [results,Tryz.results105,go_sem,qg]
 case done=>
  rintro W hT _ hz hK
  rw [hz2] at hK hz ⊢
  have q0:=hT.r.cell 0
  have qf:=hT.r.frozen 0
  have HT:=Lib.hid hT
  have HK:=Lib.hid hK
  clear hT hK
  gi_wp2
  have hk3:Keep (fun k=>¬ k=h0) W (W.setCell ⟨h0,0,none⟩ (.bool false)):=(Keep.refl _ _).setCell (p:=⟨h0,0,none⟩) (fun h=>absurd rfl h) _
  refine⟨by simp,.inl ⟨_,_,rfl,run_takeDeferred (hk3.heap (by omega) HK.out),?_⟩⟩
  have hkg:Keep (fun k=>¬ k=h0+3) (W.setCell ⟨h0,0,none⟩ (.bool false)) ((W.setCell ⟨h0,0,none⟩ (.bool false)).putObj (h0+3) (.deferred none)):=(Keep.refl _ _).putObj (fun h=>absurd rfl h) _
  have hrg:=(HT.out.r.store 0 (.bool false)).keep hkg (by omega)
  have hnd:=twice_false.2 HT.out.nd
  refine⟨.bool false,?_,by rw [hnd],(HT.out.k.trans (hk3.mono fun k (hk:k<h0) _=>by omega)).trans (hkg.mono fun k (hk:k<h0) _=>by omega)⟩
  have qg:=hrg.cell 0
  simp [results,Tryz.results105,go_sem,qg]
 case body=>
  intro lp pre x rest W hxs hz hi
  have hxin:x∈xs:=by rw [hxs];simp
  have hkey:=textKey_of x (Hok.out x hxin)
  have Hi:=Lib.hid hi
  have Hxs:=Lib.hid hxs
  clear hi hxs
  dsimp only [encNm]
  gi_wp2
  repeat ((rw [Oper.semAt_eq _ _ _ (fun c h=>by cases h)];go_simp);gi_wp2)
  refine⟨Keep.refl _ _,fun W3 hk hzz=> ?_⟩
  have hi3:=Hi.out.keep hk (fun k hk=>by omega)
  obtain⟨D,hown,hhas⟩:=hi3.m
  have hhx:=hhas x hxin
  have v0:W3.cell? ⟨h0+1+1,0,none⟩=some (.map (some (h0+1))):=hi3.v.cell 0
  have v1:W3.cell? ⟨h0+2,0,none⟩=some (.map (some (h0+1))):=hi3.v.cell 0
  have q0:W3.cell? ⟨h0,0,none⟩=some (.bool false):=hi3.r.cell 0
  have qf:=hi3.r.frozen 0
  have hlt3:=hi3.v.lt
  have hw1:h0<W3.heap.size:=by omega
  have hw2:h0≠W3.heap.size:=by omega
  have hw3:h0+1+1<W3.heap.size:=by omega
  have hw4:h0+1+1≠W3.heap.size:=by omega
  have hw6:h0+2≠W3.heap.size:=by omega
  skip
  have Hi3:=Lib.hid hi3
  have Hown:=Lib.hid hown
  have Hhas:=Lib.hid hhas
  clear hi3 Hi hhas hk hzz hz
  have hlk:(Instr.lookup 187 (.map (some (h0+1))) (.string x) true).run Tryz.prog W3= .ok (.tuple #[.agg #[],.bool (has D (Idl.textKey x))]) W3:=by
   obtain⟨v,ps,h1,h2⟩:=Hown.out.look_ok (t:=187) (e:=103) (z:= .agg #[]) keyed_text Tryz.underlying187 (Tryz.zeroValue103 W3) unitElem_mk hkey
   obtain⟨rfl,_⟩:=unitElem_inv h2
   exact h1
  by_cases hx:x∈pre
  · have hh:=hhx.2 hx
    clear hhx
    rw [hh] at hlk
    gi_wp2
    repeat ((rw [Oper.semAt_eq _ _ _ (fun c h=>by cases h)];go_simp);gi_wp2)
    have hk4:Keep (fun k=>¬ k=h0) W3 ((W3.setCell ⟨h0,0,none⟩ (.bool true)).alloc (.cells #[] 103)):=((Keep.refl _ W3).setCell (p:=⟨h0,0,none⟩) (fun h=>absurd rfl h) _).alloc _
    refine⟨hk4.mono fun k (hk:¬ (h0≤k∧k<h0+3)) _=>by omega,rfl,(Hi3.out.r.store 0 _).alloc _,?_,Hi3.out.k.trans (hk4.mono fun k (hk:k<h0) _=>by omega)⟩
    rw [Hxs.out]
    exact twice_again hx
  · have hh:has D (Idl.textKey x)=false:=by
     cases hc:has D (Idl.textKey x) with
     | false=>rfl
     | true=>exact absurd (hhx.1 hc) hx
    have hpl:pre.length<maxLen:=by
     have:=congrArg List.length Hxs.out
     rw [List.length_append] at this
     unfold maxLen
     omega
    obtain⟨w5,hup,hown5,hgr⟩:=(Hown.out.alloc (.cells #[] 103)).update (t:=187) (e:=103) keyed_text Tryz.underlying187 hpl hkey (val:= .agg #[]) unitElem_mk
    have hk5:Keep (fun k=>k≠h0+1) W3 w5:=((Keep.refl _ W3).alloc _).trans ((keep_grown (v:= .slice (some ⟨h0+1,0,none⟩) 0 0) hgr).mono fun k (hk:k≠h0+1) _ h=>hk (by injection h with h;exact h.symm))
    have htw:TwNm h0 w xs (pre++[x]) w5:=by
     refine⟨Hi3.out.r.keep hk5 (by omega),Hi3.out.v.keep hk5 (by omega),⟨_,by rw [List.length_append];exact hown5,fun y hy=> ?_⟩,Idl.nodup_snoc Hi3.out.nd hx,Hi3.out.k.trans (hk5.mono fun k (hk:k<h0) _=>by omega)⟩
     rw [List.mem_append,List.mem_singleton]
     by_cases he:Idl.textKey y=Idl.textKey x
     · have hyx:y=x:=keyNm_inj (Hok.out y hy) (Hok.out x hxin) he
       rw [he,has_put_same Hown.out.isMap (keyNm_lit x (Hok.out x hxin))]
       exact⟨fun _=> .inr hyx,fun _=>rfl⟩
     · rw [has_put_other he,Hhas.out y hy]
       exact⟨.inl,fun h=>h.elim id fun h=>absurd (congrArg _ h) he⟩
    have Htw:=Lib.hid htw
    have Hk5:=Lib.hid hk5
    clear hhx htw hk5 hown5 hgr
    rw [hh] at hlk
    gi_wp2
    repeat ((rw [Oper.semAt_eq _ _ _ (fun c h=>by cases h)];go_simp);gi_wp2)
    exact⟨Hk5.out.mono fun k (hk:¬ (h0≤k∧k<h0+3)) _=>by omega,Htw.out⟩
theorem keyCl_inj {a b:ByteArray × ByteArray} (ha:(fun y:ByteArray × ByteArray=>y.1.size≤maxLen∧y.2.size≤maxLen) a) (hb:(fun y:ByteArray × ByteArray=>y.1.size≤maxLen∧y.2.size≤maxLen) b) (h:Idl.pairKey a=Idl.pairKey b):a=b:=by
 have h1:=pairKey_of a ha.1 ha.2
 have h2:=pairKey_of b hb.1 hb.2
 rw [h] at h1
 have h3:=keyed_pair.inj h1 h2
 simp only [Value.agg.injEq,Array.mk.injEq,List.cons.injEq,Value.string.injEq,and_true] at h3
 exact Prod.ext h3.1 h3.2
theorem keyCl_lit (y:ByteArray × ByteArray) (h:y.1.size≤maxLen∧y.2.size≤maxLen):WideAt.IsKeyLit (Idl.pairKey y):=keyed_pair.key (pairKey_of y h.1 h.2)
structure TwCl (h0:Nat) (w0:World) (xs pre:List (ByteArray × ByteArray)) (W:World):Prop where
 r:Row W h0 4 #[.bool false]
 v:Row W (h0+2) 190 #[.map (some (h0+1))]
 m:∃ D:DataW Unit,W.ownsMap Tryz.prog 165 unitElem (h0+1) pre.length D∧∀ y∈xs,has D (Idl.pairKey y)=true ↔ y∈pre
 nd:pre.Nodup
 k:Keep (fun k=>k<h0) w0 W
structure TxCl (h0:Nat) (w0:World) (xs:List (ByteArray × ByteArray)) (W:World):Prop where
 r:Row W h0 4 #[.bool true]
 t:twice xs=true
 k:Keep (fun k=>k<h0) w0 W
theorem TwCl.keep {h0:Nat} {w0:World} {xs pre:List (ByteArray × ByteArray)} {W W':World} {S:Nat→Prop} (h:TwCl h0 w0 xs pre W) (hk:Keep S W W') (hS:∀ k,k<h0+3→S k):TwCl h0 w0 xs pre W':=by
 refine⟨h.r.keep hk (hS _ (by omega)),h.v.keep hk (hS _ (by omega)),?_,h.nd,h.k.trans (hk.mono fun k hk2 _=>hS k (by omega))⟩
 obtain⟨D,⟨es,clock,hb,r⟩,hh⟩:=h.m
 exact⟨D,⟨es,clock,hk.heap (hS _ (by omega)) hb,r⟩,hh⟩
theorem TxCl.keep {h0:Nat} {w0:World} {xs:List (ByteArray × ByteArray)} {W W':World} {S:Nat→Prop} (h:TxCl h0 w0 xs W) (hk:Keep S W W') (hS:∀ k,k<h0+3→S k):TxCl h0 w0 xs W':=
 ⟨h.r.keep hk (hS _ (by omega)),h.t,h.k.trans (hk.mono fun k hk2 _=>hS k (by omega))⟩
theorem twiceCl_any (gf:Nat) (lb:Array Value) (eg:∀ args w,(callFunc gf args).run Tryz.prog w= .ok (.enter gf args) w) (xs:List (ByteArray × ByteArray)) (hok:∀ y∈xs,y.1.size≤maxLen∧y.2.size≤maxLen) (hlen:xs.length≤100000) (w:World)
 (hseq:∀ W,Keep (fun k=>k<w.heap.size) w W→SeqF Tryz.prog gf lb encCl xs (fun _=>False) (fun k=>k<w.heap.size) (fun _=>True) W):
 Calls Tryz.prog 108 #[.func (.func gf) #[] lb] w fun e w'=>e= .returned (.bool (twice xs))∧Keep (fun k=>k<w.heap.size) w w':=by
 obtain⟨h0,hh0⟩:∃ h0,w.heap.size=h0:=⟨_,rfl⟩
 rw [hh0] at hseq ⊢
 have Hok:=Lib.hid hok
 have Hseq:=Lib.hid hseq
 clear hok hseq
 refine(callsIn_wide (n:=9)).1 ?_
 refine callsIn_of_wp_marks Tryz.func108 rfl trivial ?_ rfl
 simp only [Tryz.ntmps108,List.size_toArray,List.length_cons,List.length_nil,Nat.reduceAdd,Nat.reduceSub,Array.replicate_succ,Array.replicate_zero,List.push_toArray,List.append_toArray,List.nil_append,List.cons_append]
 have hmk:=fun W=>run_makeMap (P:=Tryz.prog) 190 W
 gi_wp2
 obtain⟨w2,hw2⟩:∃ w2,((w.alloc (.cells #[.bool false] 4)).alloc (.map #[] 0)).alloc (.cells #[.map (some (h0+1))] 190)=w2:=⟨_,rfl⟩
 have hz2:w2.heap.size=h0+3:=by rw [← hw2,← hh0];simp
 have hk2:Keep (fun _=>True) w w2:=by rw [← hw2];exact(((Keep.refl _ _).alloc _).alloc _).alloc _
 have hat:TwCl h0 w xs [] w2:=by
  refine⟨?_,?_,⟨.map [],?_,fun y _=>by simp [has]⟩,List.nodup_nil,hk2.mono fun _ _ _=>trivial⟩
  · rw [← hw2,← hh0];exact((Row.new w _ _).alloc _).alloc _
  · have h1:=Row.new ((w.alloc (.cells #[.bool false] 4)).alloc (.map #[] 0)) 190 #[.map (some (h0+1))]
    rw [World.size_alloc,World.size_alloc,hh0,hw2] at h1
    exact h1
  · have h1:=World.ownsMap_made (H:=Unit) (w.alloc (.cells #[.bool false] 4)) Tryz.prog 165 unitElem
    rw [World.size_alloc,hh0] at h1
    have h2:=h1.alloc (.cells #[.map (some (h0+1))] 190)
    rwa [hw2] at h2
 have Hat:=Lib.hid hat
 have Hk2:=Lib.hid hk2
 rw [hw2]
 clear hat hk2 hw2 hmk
 refine wp_rangeF (n:=9) (gf:=gf) (lb:=lb) rfl eg (Hseq.out w2 (Hk2.out.mono fun _ _ _=>trivial)) (fun _ h=>h.elim) (fun k (hk:k<h0)=>by omega) (fun _ _ _ _=>trivial) (fun _=>rfl) (fun k=>h0≤k∧k<h0+3) (fun k (hk:h0≤k∧k<h0+3)=>⟨by omega,fun(h:k<h0)=>by omega⟩)
  (TwCl h0 w xs) (fun c _ W=>c= .ret∧TxCl h0 w xs W) (fun s A B hs hk=>hs.keep hk (fun k hk=>⟨fun h=>h,by omega,by omega⟩)) (fun c s A B hs hk=>⟨hs.1,hs.2.keep hk (fun k hk=>⟨fun h=>h,by omega,by omega⟩)⟩) Hat.out ?body ?done ?stop
 case stop=>
  rintro c pre suf W _ ⟨rfl,hT⟩ hz hK
  rw [hz2] at hK hz ⊢
  have q0:=hT.r.cell 0
  have HT:=Lib.hid hT
  have HK:=Lib.hid hK
  clear hT hK
  gi_wp2
  refine⟨by simp,.inl ⟨_,_,rfl,run_takeDeferred HK.out,?_⟩⟩
  have hkg:Keep (fun k=>¬ k=h0+3) W (W.putObj (h0+3) (.deferred none)):=(Keep.refl _ _).putObj (fun h=>absurd rfl h) _
  have hrg:=HT.out.r.keep hkg (by omega)
  refine⟨.bool true,?_,by rw [HT.out.t],HT.out.k.trans (hkg.mono fun k (hk:k<h0) _=>by omega)⟩
  have qg:=hrg.cell 0
  simp [results,Tryz.results108,go_sem,qg]
 case done=>
  rintro W hT _ hz hK
  rw [hz2] at hK hz ⊢
  have q0:=hT.r.cell 0
  have qf:=hT.r.frozen 0
  have HT:=Lib.hid hT
  have HK:=Lib.hid hK
  clear hT hK
  gi_wp2
  have hk3:Keep (fun k=>¬ k=h0) W (W.setCell ⟨h0,0,none⟩ (.bool false)):=(Keep.refl _ _).setCell (p:=⟨h0,0,none⟩) (fun h=>absurd rfl h) _
  refine⟨by simp,.inl ⟨_,_,rfl,run_takeDeferred (hk3.heap (by omega) HK.out),?_⟩⟩
  have hkg:Keep (fun k=>¬ k=h0+3) (W.setCell ⟨h0,0,none⟩ (.bool false)) ((W.setCell ⟨h0,0,none⟩ (.bool false)).putObj (h0+3) (.deferred none)):=(Keep.refl _ _).putObj (fun h=>absurd rfl h) _
  have hrg:=(HT.out.r.store 0 (.bool false)).keep hkg (by omega)
  have hnd:=twice_false.2 HT.out.nd
  refine⟨.bool false,?_,by rw [hnd],(HT.out.k.trans (hk3.mono fun k (hk:k<h0) _=>by omega)).trans (hkg.mono fun k (hk:k<h0) _=>by omega)⟩
  have qg:=hrg.cell 0
  simp [results,Tryz.results108,go_sem,qg]
 case body=>
  intro lp pre x rest W hxs hz hi
  have hxin:x∈xs:=by rw [hxs];simp
  have hkey:=pairKey_of x (Hok.out x hxin).1 (Hok.out x hxin).2
  have Hi:=Lib.hid hi
  have Hxs:=Lib.hid hxs
  clear hi hxs
  dsimp only [encCl]
  gi_wp2
  repeat ((rw [Oper.semAt_eq _ _ _ (fun c h=>by cases h)];go_simp);gi_wp2)
  refine⟨(Keep.refl _ _).alloc _,fun W3 hk hzz=> ?_⟩
  have hi3:=Hi.out.keep (((Keep.refl _ W).alloc _).trans hk) (fun k hk=>by omega)
  obtain⟨D,hown,hhas⟩:=hi3.m
  have hhx:=hhas x hxin
  have v0:W3.cell? ⟨h0+1+1,0,none⟩=some (.map (some (h0+1))):=hi3.v.cell 0
  have v1:W3.cell? ⟨h0+2,0,none⟩=some (.map (some (h0+1))):=hi3.v.cell 0
  have q0:W3.cell? ⟨h0,0,none⟩=some (.bool false):=hi3.r.cell 0
  have qf:=hi3.r.frozen 0
  have hlt3:=hi3.v.lt
  have hw1:h0<W3.heap.size:=by omega
  have hw2:h0≠W3.heap.size:=by omega
  have hw3:h0+1+1<W3.heap.size:=by omega
  have hw4:h0+1+1≠W3.heap.size:=by omega
  have hw6:h0+2≠W3.heap.size:=by omega
  have rx:=(Row.new W 165 #[.string x.1,.string x.2]).keep hk (by omega)
  have rx0:W3.cell? ⟨W.heap.size,0,none⟩=some (.string x.1):=rx.cell 0
  have rx1:W3.cell? ⟨W.heap.size,1,none⟩=some (.string x.2):=rx.cell 1
  have hx3:=rx.lt
  have hx4:W.heap.size≠W3.heap.size:=by omega
  have hx5:h0≠W.heap.size:=by omega
  clear rx
  have Hi3:=Lib.hid hi3
  have Hown:=Lib.hid hown
  have Hhas:=Lib.hid hhas
  clear hi3 Hi hhas hk hzz hz
  have hlk:(Instr.lookup 190 (.map (some (h0+1))) (.agg #[.string x.1,.string x.2]) true).run Tryz.prog W3= .ok (.tuple #[.agg #[],.bool (has D (Idl.pairKey x))]) W3:=by
   obtain⟨v,ps,h1,h2⟩:=Hown.out.look_ok (t:=190) (e:=103) (z:= .agg #[]) keyed_pair Tryz.underlying190 (Tryz.zeroValue103 W3) unitElem_mk hkey
   obtain⟨rfl,_⟩:=unitElem_inv h2
   exact h1
  by_cases hx:x∈pre
  · have hh:=hhx.2 hx
    clear hhx
    rw [hh] at hlk
    gi_wp2
    repeat ((rw [Oper.semAt_eq _ _ _ (fun c h=>by cases h)];go_simp);gi_wp2)
    have hk4:Keep (fun k=>¬ k=h0) W3 ((W3.setCell ⟨h0,0,none⟩ (.bool true)).alloc (.cells #[] 103)):=((Keep.refl _ W3).setCell (p:=⟨h0,0,none⟩) (fun h=>absurd rfl h) _).alloc _
    refine⟨hk4.mono fun k (hk:¬ (h0≤k∧k<h0+3)) _=>by omega,rfl,(Hi3.out.r.store 0 _).alloc _,?_,Hi3.out.k.trans (hk4.mono fun k (hk:k<h0) _=>by omega)⟩
    rw [Hxs.out]
    exact twice_again hx
  · have hh:has D (Idl.pairKey x)=false:=by
     cases hc:has D (Idl.pairKey x) with
     | false=>rfl
     | true=>exact absurd (hhx.1 hc) hx
    have hpl:pre.length<maxLen:=by
     have:=congrArg List.length Hxs.out
     rw [List.length_append] at this
     unfold maxLen
     omega
    obtain⟨w5,hup,hown5,hgr⟩:=(Hown.out.alloc (.cells #[] 103)).update (t:=190) (e:=103) keyed_pair Tryz.underlying190 hpl hkey (val:= .agg #[]) unitElem_mk
    have hk5:Keep (fun k=>k≠h0+1) W3 w5:=((Keep.refl _ W3).alloc _).trans ((keep_grown (v:= .slice (some ⟨h0+1,0,none⟩) 0 0) hgr).mono fun k (hk:k≠h0+1) _ h=>hk (by injection h with h;exact h.symm))
    have htw:TwCl h0 w xs (pre++[x]) w5:=by
     refine⟨Hi3.out.r.keep hk5 (by omega),Hi3.out.v.keep hk5 (by omega),⟨_,by rw [List.length_append];exact hown5,fun y hy=> ?_⟩,Idl.nodup_snoc Hi3.out.nd hx,Hi3.out.k.trans (hk5.mono fun k (hk:k<h0) _=>by omega)⟩
     rw [List.mem_append,List.mem_singleton]
     by_cases he:Idl.pairKey y=Idl.pairKey x
     · have hyx:y=x:=keyCl_inj (Hok.out y hy) (Hok.out x hxin) he
       rw [he,has_put_same Hown.out.isMap (keyCl_lit x (Hok.out x hxin))]
       exact⟨fun _=> .inr hyx,fun _=>rfl⟩
     · rw [has_put_other he,Hhas.out y hy]
       exact⟨.inl,fun h=>h.elim id fun h=>absurd (congrArg _ h) he⟩
    have Htw:=Lib.hid htw
    have Hk5:=Lib.hid hk5
    clear hhx htw hk5 hown5 hgr
    rw [hh] at hlk
    gi_wp2
    repeat ((rw [Oper.semAt_eq _ _ _ (fun c h=>by cases h)];go_simp);gi_wp2)
    exact⟨Hk5.out.mono fun k (hk:¬ (h0≤k∧k<h0+3)) _=>by omega,Htw.out⟩
end Go.Proofs.YtpnbkfboneabaaaGreat
namespace Go.Proofs.YtpnbkfboneabaaaGreat
open Go.RowKit
theorem keep_low {w w':World} (h:Keep (fun k=>k<w.heap.size) w w'):Below w.heap.size w w':=⟨h.os,h.tape,h.output,h.size,fun k hk=>h.block k hk hk⟩
def Idl.vals (tb:ByteArray) (p:Nat) (nv cv:Value) (b:Bool):Array Value:=#[.string tb,.int .i64 (p:Int),nv,cv,.bool b]
theorem names_any (tb:ByteArray) (p:Nat) (nv cv:Value) (b:Bool) (tg:Nat) (w:World):
 Calls Tryz.prog 106 #[.agg (Idl.vals tb p nv cv b),.func (.func tg) #[] #[]] w fun e w'=>
  e= .returned (.func (.func 127) #[] #[.pointer (some ⟨w.heap.size,0,none⟩),.pointer (some ⟨w.heap.size+1,0,none⟩)])∧w'=(w.alloc (.cells (Idl.vals tb p nv cv b) 32)).alloc (.cells #[.func (.func tg) #[] #[]] 162):=by
 have hmf:∀(fn:Fn) (first cap:Array Value) (w:World),(Instr.makeFunc fn first cap).run Tryz.prog w= .ok (.func fn first cap) w:=fun _ _ _ _=>rfl
 unfold Idl.vals
 go_enter Tryz.func106,Tryz.ntmps106
 go_wp2
 go_ret
 exact⟨rfl,rfl⟩
theorem twNm_any (tg:Nat) (f:ByteArray × ByteArray→ByteArray) (eg:∀ args w,(callFunc tg args).run Tryz.prog w= .ok (.enter tg args) w)
 (htell:∀(a b:ByteArray) (W:World),Calls Tryz.prog tg #[.agg #[.string a,.string b]] W fun e w'=>e= .returned ((fun y:ByteArray=>(.string y:Value)) (f (a,b)))∧Below W.heap.size W w')
 (tb:ByteArray) (p:Nat) (nv cv:Value) (b:Bool) (l:List (ByteArray × ByteArray)) (hlen:l.length≤100000) (hok:∀ x∈l,(f x).size≤maxLen) (w:World) (h:NmAt w 0 nv l):
 Calls Tryz.prog 105 #[.func (.func 127) #[] #[.pointer (some ⟨w.heap.size,0,none⟩),.pointer (some ⟨w.heap.size+1,0,none⟩)]] ((w.alloc (.cells (Idl.vals tb p nv cv b) 32)).alloc (.cells #[.func (.func tg) #[] #[]] 162)) fun e w'=>
  e= .returned (.bool (twice (l.map f)))∧Below w.heap.size w w':=by
 obtain⟨p0,q0,hb0,hz0⟩:=box2 w (Idl.vals tb p nv cv b) #[.func (.func tg) #[] #[]] 32 162
 obtain⟨w2,hw2⟩:∃ w2,(w.alloc (.cells (Idl.vals tb p nv cv b) 32)).alloc (.cells #[.func (.func tg) #[] #[]] 162)=w2:=⟨_,rfl⟩
 rw [hw2] at p0 q0 hb0 hz0 ⊢
 have h2:NmAt w2 0 nv l:=owns_below h hb0
 refine(twiceNm_any 127 _ (enters_of Tryz.func127 (by kernel_rfl) rfl) (l.map f) (fun y hy=> ?_) (by rw [List.length_map];exact hlen) w2 (fun W hW=> ?_)).mono fun e w' hh=>⟨hh.1,hb0.trans ((keep_low hh.2).mono (by omega))⟩
 · obtain⟨x,hx,rfl⟩:=List.mem_map.1 hy
   exact hok x hx
 · have hWl:NmAt W 0 nv l:=owns_below h2 (keep_low hW)
   refine names1_any l nv w.heap.size (w.heap.size+1) tg f w2.heap.size W (by omega) (by omega) hW.size eg htell (hW.cell (p:=⟨w.heap.size,2,none⟩) (by dsimp only;omega) (p0.cell 2)) (hW.cell (p:=⟨w.heap.size+1,0,none⟩) (by dsimp only;omega) (q0.cell 0)) hWl ?_
   intro k hk
   rcases ownsRow_cases h2 (by decide) with ⟨rfl,-,-⟩ | ⟨g,cap,rfl,-,hg,-,-⟩
   · cases hk
   · injection hk with hk
     subst hk
     exact hg
theorem cells_any (tb:ByteArray) (p:Nat) (nv cv:Value) (b:Bool) (tg:Nat) (w:World):
 Calls Tryz.prog 109 #[.agg (Idl.vals tb p nv cv b),.func (.func tg) #[] #[]] w fun e w'=>
  e= .returned (.func (.func 128) #[] #[.pointer (some ⟨w.heap.size,0,none⟩),.pointer (some ⟨w.heap.size+1,0,none⟩)])∧w'=(w.alloc (.cells (Idl.vals tb p nv cv b) 32)).alloc (.cells #[.func (.func tg) #[] #[]] 169):=by
 have hmf:∀(fn:Fn) (first cap:Array Value) (w:World),(Instr.makeFunc fn first cap).run Tryz.prog w= .ok (.func fn first cap) w:=fun _ _ _ _=>rfl
 unfold Idl.vals
 go_enter Tryz.func109,Tryz.ntmps109
 go_wp2
 go_ret
 exact⟨rfl,rfl⟩
theorem twCl_any (tg:Nat) (f:ByteArray × ByteArray × ByteArray→ByteArray × ByteArray) (eg:∀ args w,(callFunc tg args).run Tryz.prog w= .ok (.enter tg args) w)
 (htell:∀(a b c:ByteArray) (W:World),Calls Tryz.prog tg #[.agg #[.string a,.string b,.string c]] W fun e w'=>e= .returned ((fun y:ByteArray × ByteArray=>(.agg #[.string y.1,.string y.2]:Value)) (f (a,b,c)))∧Below W.heap.size W w')
 (tb:ByteArray) (p:Nat) (nv cv:Value) (b:Bool) (l:List (ByteArray × ByteArray × ByteArray)) (hlen:l.length≤100000) (hok:∀ x∈l,(f x).1.size≤maxLen∧(f x).2.size≤maxLen) (w:World) (h:ClAt w 0 cv l):
 Calls Tryz.prog 108 #[.func (.func 128) #[] #[.pointer (some ⟨w.heap.size,0,none⟩),.pointer (some ⟨w.heap.size+1,0,none⟩)]] ((w.alloc (.cells (Idl.vals tb p nv cv b) 32)).alloc (.cells #[.func (.func tg) #[] #[]] 169)) fun e w'=>
  e= .returned (.bool (twice (l.map f)))∧Below w.heap.size w w':=by
 obtain⟨p0,q0,hb0,hz0⟩:=box2 w (Idl.vals tb p nv cv b) #[.func (.func tg) #[] #[]] 32 169
 obtain⟨w2,hw2⟩:∃ w2,(w.alloc (.cells (Idl.vals tb p nv cv b) 32)).alloc (.cells #[.func (.func tg) #[] #[]] 169)=w2:=⟨_,rfl⟩
 rw [hw2] at p0 q0 hb0 hz0 ⊢
 have h2:ClAt w2 0 cv l:=owns_below h hb0
 refine(twiceCl_any 128 _ (enters_of Tryz.func128 (by kernel_rfl) rfl) (l.map f) (fun y hy=> ?_) (by rw [List.length_map];exact hlen) w2 (fun W hW=> ?_)).mono fun e w' hh=>⟨hh.1,hb0.trans ((keep_low hh.2).mono (by omega))⟩
 · obtain⟨x,hx,rfl⟩:=List.mem_map.1 hy
   exact hok x hx
 · have hWl:ClAt W 0 cv l:=owns_below h2 (keep_low hW)
   refine cells1_any l cv w.heap.size (w.heap.size+1) tg f w2.heap.size W (by omega) (by omega) hW.size eg htell (hW.cell (p:=⟨w.heap.size,3,none⟩) (by dsimp only;omega) (p0.cell 3)) (hW.cell (p:=⟨w.heap.size+1,0,none⟩) (by dsimp only;omega) (q0.cell 0)) hWl ?_
   intro k hk
   rcases ownsRow_cases h2 (by decide) with ⟨rfl,-,-⟩ | ⟨g,cap,rfl,-,hg,-,-⟩
   · cases hk
   · injection hk with hk
     subst hk
     exact hg
theorem clash_any (tb:ByteArray) (p:Nat) (nv cv:Value) (b:Bool) (d:Idl) (hn:d.nm.length≤100000) (hc:d.cl.length≤100000) (hnk:∀ x∈d.nm,x.2.size≤maxLen) (hck:∀ x∈d.cl,x.1.size≤maxLen∧x.2.2.size≤maxLen) (w:World) (hN:NmAt w 0 nv d.nm) (hC:ClAt w 0 cv d.cl):
 Calls Tryz.prog 111 #[.agg (Idl.vals tb p nv cv b)] w fun e w'=>e= .returned (.bool d.clash)∧Below w.heap.size w w':=by
 have hb0:Below w.heap.size w (w.alloc (.cells (Idl.vals tb p nv cv b) 32)):=(Below.refl _ w).alloc (Nat.le_refl _) _
 have hr0:=Row.new w 32 (Idl.vals tb p nv cv b)
 have hN1:=fun w1 (hb:Below w.heap.size w w1)=>twNm_any 129 (fun x=>x.2) (enters_of Tryz.func129 (by kernel_rfl) rfl) (fun a b W=>tell_out a b W) tb p nv cv b d.nm hn hnk w1 (owns_below hN hb)
 have hC1:=fun w1 (hb:Below w.heap.size w w1)=>twCl_any 130 (fun x=>(x.1,x.2.2)) (enters_of Tryz.func130 (by kernel_rfl) rfl) (fun a b c W=>tell_told a b c W) tb p nv cv b d.cl hc hck w1 (owns_below hC hb)
 have hna:=fun w=>names_any tb p nv cv b 129 w
 have hca:=fun w=>cells_any tb p nv cv b 130 w
 have HN1:=Lib.hid hN1
 have HC1:=Lib.hid hC1
 have Hna:=Lib.hid hna
 have Hca:=Lib.hid hca
 clear hN1 hC1 hna hca hN hC hnk hck
 change Calls _ _ _ _ (fun e w'=>e= .returned (.bool (twice (d.nm.map fun x=>x.2) || twice (d.cl.map fun x=>(x.1,x.2.2))))∧_)
 obtain⟨r1,hr1⟩:∃ r,twice (d.nm.map fun x=>x.2)=r:=⟨_,rfl⟩
 obtain⟨r2,hr2⟩:∃ r,twice (d.cl.map fun x=>(x.1,x.2.2))=r:=⟨_,rfl⟩
 rw [hr1] at HN1 ⊢
 rw [hr2] at HC1 ⊢
 clear hr1 hr2
 unfold Idl.vals at*
 go_enter Tryz.func111,Tryz.ntmps111
 go_wp2_with fail
 refine(Hna.out _).mono ?_
 rintro e w1 ⟨rfl,rfl⟩
 go_wp2_with fail
 have hn1:=HN1.out _ hb0
 rw [World.size_alloc] at hn1
 refine hn1.mono ?_
 clear hn1
 rintro e w2 ⟨rfl,hb2⟩
 have hr2:=hr0.below hb2 (Nat.lt_succ_self _)
 have Hb:=Lib.hid (hb0.trans (hb2.mono (Nat.le_succ _)))
 have c0:w2.cell? ⟨w.heap.size,0,none⟩=some (.string tb):=hr2.cell 0
 have c1:w2.cell? ⟨w.heap.size,1,none⟩=some (.int .i64 (p:Int)):=hr2.cell 1
 have c2:w2.cell? ⟨w.heap.size,2,none⟩=some nv:=hr2.cell 2
 have c3:w2.cell? ⟨w.heap.size,3,none⟩=some cv:=hr2.cell 3
 have c4:w2.cell? ⟨w.heap.size,4,none⟩=some (.bool b):=hr2.cell 4
 clear hb2 hr2 hb0 hr0
 cases r1
 · go_wp2_with fail
   refine(Hca.out _).mono ?_
   rintro e w3 ⟨rfl,rfl⟩
   go_wp2_with fail
   refine(HC1.out _ Hb.out).mono ?_
   rintro e w4 ⟨rfl,hb4⟩
   have Hb4:=Lib.hid (Hb.out.trans (hb4.mono Hb.out.size))
   clear hb4
   go_wp2
   go_ret
   exact⟨by rw [Bool.false_or];rfl,Hb4.out⟩
 · go_wp2
   go_ret
   exact⟨by rw [Bool.true_or];rfl,Hb.out⟩
theorem Idl.Good.nmk {d:Idl} (hg:d.Good):∀ x∈d.nm,x.1.size≤maxLen∧x.2.size≤maxLen:=fun x hx=>by
 have:=hg.nm x hx
 unfold maxLen
 omega
theorem Idl.Good.clk {d:Idl} (hg:d.Good):∀ x∈d.cl,x.1.size≤maxLen∧x.2.1.size≤maxLen∧x.2.2.size≤maxLen:=fun x hx=>by
 have:=hg.cl x hx
 unfold maxLen
 omega
theorem idx_none {α:Type} [Inhabited α] {p:α→Bool} {l:List α} (h:∀ x∈l,p x=false):decide (0≤Lib.idxBy (fun _ y=>p y) l default)=false:=by
 rcases idx_find p l with ⟨-,hx⟩ | ⟨k,x,-,hx,hf,-⟩
 · rw [hx];decide
 · have h1:=List.find?_some hf
   rw [h x (List.mem_of_getElem? hx)] at h1
   cases h1
theorem idealRight_any (d:Idl) (hg:d.Good) (nv cv:Value) (w:World) (hN:NmAt w 0 nv d.nm) (hC:ClAt w 0 cv d.cl):
 Calls Tryz.prog 74 #[.agg (Idl.vals d.tb d.pos nv cv d.clash)] w fun e w'=>e= .returned (.bool true)∧Below w.heap.size w w':=by
 have h1:=hg.nms
 have h2:=hg.cls
 have hb0:Below w.heap.size w (w.alloc (.cells (Idl.vals d.tb d.pos nv cv d.clash) 32)):=(Below.refl _ w).alloc (Nat.le_refl _) _
 have hr0:=Row.new w 32 (Idl.vals d.tb d.pos nv cv d.clash)
 have HT:=Lib.hid (fun w=>tapeRight_any d.tb d.pos hg.tb hg.pos w)
 have ho1:decide (0≤Lib.idxBy (fun _ y=>Idl.oddName y) d.nm default)=false:=idx_none fun x hx=>by
  have:=hg.nm x hx
  unfold Idl.oddName
  simp
  omega
 have ho2:decide (0≤Lib.idxBy (fun _ y=>Idl.oddCell y) d.cl default)=false:=idx_none fun x hx=>by
  have:=hg.cl x hx
  unfold Idl.oddCell
  simp
  omega
 have hO1:=fun w1 (hb:Below w.heap.size w w1)=>containsNm_any d.nm nv Idl.oddName 100 #[] enters_oddName w1 (owns_below hN hb) (oddName_pred w1)
 have hO2:=fun w1 (hb:Below w.heap.size w w1)=>containsCl_any d.cl cv Idl.oddCell 101 #[] enters_oddCell w1 (owns_below hC hb) (oddCell_pred w1)
 rw [ho1] at hO1
 rw [ho2] at hO2
 have hN1:=fun w1 (hb:Below w.heap.size w w1)=>twNm_any 107 (fun x=>x.1) (enters_of Tryz.func107 (by kernel_rfl) rfl) (fun a b W=>tell_in a b W) d.tb d.pos nv cv d.clash d.nm (by omega) (fun x hx=>(hg.nmk x hx).1) w1 (owns_below hN hb)
 have hC1:=fun w1 (hb:Below w.heap.size w w1)=>twCl_any 110 (fun x=>(x.1,x.2.1)) (enters_of Tryz.func110 (by kernel_rfl) rfl) (fun a b c W=>tell_made a b c W) d.tb d.pos nv cv d.clash d.cl (by omega) (fun x hx=>⟨(hg.clk x hx).1,(hg.clk x hx).2.1⟩) w1 (owns_below hC hb)
 have ht1:twice (d.nm.map fun x=>x.1)=false:=twice_false.2 hg.ins
 have ht2:twice (d.cl.map fun x=>(x.1,x.2.1))=false:=twice_false.2 hg.made
 rw [ht1] at hN1
 rw [ht2] at hC1
 have hcl:=fun w1 (hb:Below w.heap.size w w1)=>clash_any d.tb d.pos nv cv d.clash d (by omega) (by omega) (fun x hx=>(hg.nmk x hx).2) (fun x hx=>⟨(hg.clk x hx).1,(hg.clk x hx).2.2⟩) w1 (owns_below hN hb) (owns_below hC hb)
 have HO1:=Lib.hid hO1
 have HO2:=Lib.hid hO2
 have HN1:=Lib.hid hN1
 have HC1:=Lib.hid hC1
 have Hcl:=Lib.hid hcl
 have Hna:=Lib.hid (fun w=>names_any d.tb d.pos nv cv d.clash 107 w)
 have Hca:=Lib.hid (fun w=>cells_any d.tb d.pos nv cv d.clash 110 w)
 have hln:=ownsRow_cases hN (by decide)
 have hlc:=ownsRow_cases hC (by decide)
 clear hO1 hO2 hN1 hC1 hcl ho1 ho2 ht1 ht2 hN hC
 obtain⟨ln,hln1,hln2⟩:∃ n:Nat,n=d.nm.length∧n≤2000:=⟨_,rfl,h1⟩
 obtain⟨lc,hlc1,hlc2⟩:∃ n:Nat,n=d.cl.length∧n≤2000:=⟨_,rfl,h2⟩
 have hlen1:∃ a c,nv= .slice a ln c:=by
  rcases hln with ⟨rfl,h3,-⟩ | ⟨g,cap,rfl,-⟩
  · exact⟨none,0,by rw [hln1,h3]⟩
  · exact⟨_,_,by rw [hln1]⟩
 have hlen2:∃ a c,cv= .slice a lc c:=by
  rcases hlc with ⟨rfl,h3,-⟩ | ⟨g,cap,rfl,-⟩
  · exact⟨none,0,by rw [hlc1,h3]⟩
  · exact⟨_,_,by rw [hlc1]⟩
 obtain⟨na,nc,rfl⟩:=hlen1
 obtain⟨ca,cc,rfl⟩:=hlen2
 clear hln hlc hln1 hlc1 h1 h2 hg
 generalize d.clash=cb at*
 generalize d.tb=tb at*
 generalize d.pos=p at*
 unfold Idl.vals at*
 go_enter Tryz.func74,Tryz.ntmps74
 go_wp2_with fail
 refine(HT.out _).mono ?_
 rintro e w1 ⟨rfl,hb1⟩
 have Hr1:=Lib.hid (hr0.below hb1 hr0.lt)
 have Hb1:=Lib.hid (hb0.trans (hb1.mono hb0.size))
 clear hb1 hr0 hb0
 have c2:w1.cell? ⟨w.heap.size,2,none⟩=some (.slice na ln nc):=Hr1.out.cell 2
 have c3:w1.cell? ⟨w.heap.size,3,none⟩=some (.slice ca lc cc):=Hr1.out.cell 3
 have hmx:¬ (2000:Int)<max (ln:Int) (lc:Int):=by omega
 go_wp2_with fail
 refine(HO1.out _ Hb1.out).mono ?_
 rintro e w2 ⟨rfl,hb2⟩
 have Hr2:=Lib.hid (Hr1.out.below hb2 Hr1.out.lt)
 have Hb2:=Lib.hid (Hb1.out.trans (hb2.mono Hb1.out.size))
 clear hb2 Hr1 Hb1 c2 c3
 have c3:w2.cell? ⟨w.heap.size,3,none⟩=some (.slice ca lc cc):=Hr2.out.cell 3
 go_wp2_with fail
 refine(HO2.out _ Hb2.out).mono ?_
 rintro e w3 ⟨rfl,hb3⟩
 have Hr3:=Lib.hid (Hr2.out.below hb3 Hr2.out.lt)
 have Hb3:=Lib.hid (Hb2.out.trans (hb3.mono Hb2.out.size))
 clear hb3 Hr2 Hb2 c3
 have c0:w3.cell? ⟨w.heap.size,0,none⟩=some (.string tb):=Hr3.out.cell 0
 have c1:w3.cell? ⟨w.heap.size,1,none⟩=some (.int .i64 (p:Int)):=Hr3.out.cell 1
 have c2:w3.cell? ⟨w.heap.size,2,none⟩=some (.slice na ln nc):=Hr3.out.cell 2
 have c3:w3.cell? ⟨w.heap.size,3,none⟩=some (.slice ca lc cc):=Hr3.out.cell 3
 have c4:w3.cell? ⟨w.heap.size,4,none⟩=some (.bool cb):=Hr3.out.cell 4
 go_wp2_with fail
 refine(Hna.out _).mono ?_
 rintro e w4 ⟨rfl,rfl⟩
 go_wp2_with fail
 refine(HN1.out _ Hb3.out).mono ?_
 rintro e w5 ⟨rfl,hb5⟩
 have Hr5:=Lib.hid (Hr3.out.below hb5 Hr3.out.lt)
 have Hb5:=Lib.hid (Hb3.out.trans (hb5.mono Hb3.out.size))
 clear hb5 Hr3 Hb3 c0 c1 c2 c3 c4
 have c0:w5.cell? ⟨w.heap.size,0,none⟩=some (.string tb):=Hr5.out.cell 0
 have c1:w5.cell? ⟨w.heap.size,1,none⟩=some (.int .i64 (p:Int)):=Hr5.out.cell 1
 have c2:w5.cell? ⟨w.heap.size,2,none⟩=some (.slice na ln nc):=Hr5.out.cell 2
 have c3:w5.cell? ⟨w.heap.size,3,none⟩=some (.slice ca lc cc):=Hr5.out.cell 3
 have c4:w5.cell? ⟨w.heap.size,4,none⟩=some (.bool cb):=Hr5.out.cell 4
 go_wp2_with fail
 refine(Hca.out _).mono ?_
 rintro e w6 ⟨rfl,rfl⟩
 go_wp2_with fail
 refine(HC1.out _ Hb5.out).mono ?_
 rintro e w7 ⟨rfl,hb7⟩
 have Hr7:=Lib.hid (Hr5.out.below hb7 Hr5.out.lt)
 have Hb7:=Lib.hid (Hb5.out.trans (hb7.mono Hb5.out.size))
 clear hb7 Hr5 Hb5 c0 c1 c2 c3 c4
 have c0:w7.cell? ⟨w.heap.size,0,none⟩=some (.string tb):=Hr7.out.cell 0
 have c1:w7.cell? ⟨w.heap.size,1,none⟩=some (.int .i64 (p:Int)):=Hr7.out.cell 1
 have c2:w7.cell? ⟨w.heap.size,2,none⟩=some (.slice na ln nc):=Hr7.out.cell 2
 have c3:w7.cell? ⟨w.heap.size,3,none⟩=some (.slice ca lc cc):=Hr7.out.cell 3
 have c4:w7.cell? ⟨w.heap.size,4,none⟩=some (.bool cb):=Hr7.out.cell 4
 have Hd7:Hid (Below w.heap.size w w7.drew):=Lib.hid Hb7.out.drew
 go_wp2_with fail
 have hmix:Tryz.prog.follows .mixedOrders=true:=by kernel_rfl
 refine wp_only ?_
 go_region_with (go_at_call 111;refine(Hcl.out _ Hd7.out).mono ?_;rintro e w8 ⟨rfl,hb8⟩;have d4:w8.cell? ⟨w.heap.size,4,none⟩=some (.bool cb):=(Hr7.out.drew.below hb8 Hr7.out.lt).cell 4;have Hb8:Hid (Below w.heap.size w w8):=Lib.hid (Hd7.out.trans (hb8.mono Hb7.out.size)))
 all_goals
  dsimp only [OnlyQ]
  go_wp2
  go_ret
  refine⟨?_,Hb8.out⟩
  cases cb <;> rfl
theorem slice_of {W:World} {B:Nat} {e:TypeId} {s:Nat} {v:Value} {n:Nat} {xs:List Value} (h:W.ownsRow B e s v n xs):∃ a c,v= .slice a n c:=by
 rcases h.2 with ⟨rfl,rfl⟩ | ⟨g,cap,cur,rfl,-⟩
 · exact⟨_,_,rfl⟩
 · exact⟨_,_,rfl⟩
def OwnAt (w:World) (h:Nat) (tb:ByteArray) (p:Nat) (b:Bool) (d:Idl) (wx:World):Prop:=
 ∃ nv' cv',Row wx h 32 #[.string tb,.int .i64 (p:Int),nv',cv',.bool b]∧Row wx (h+1) 32 #[.string ⟨#[]⟩,.int .i64 0,.slice none 0 0,.slice none 0 0,.bool false]∧NmAt wx (h+2) nv' d.nm∧ClAt wx (h+2) cv' d.cl∧Below h w wx
theorem own_any (tb:ByteArray) (p:Nat) (nv cv:Value) (b:Bool) (d:Idl) (hn:d.nm.length≤100000) (hc:d.cl.length≤100000) (w:World) (hN:NmAt w 0 nv d.nm) (hC:ClAt w 0 cv d.cl):
 Calls Tryz.prog 207 #[.agg (Idl.vals tb p nv cv b)] w fun e w'=>∃ nv' cv',e= .returned (.agg (Idl.vals tb p nv' cv' b))∧NmAt w' w.heap.size nv' d.nm∧ClAt w' w.heap.size cv' d.cl∧Below w.heap.size w w':=by
 unfold Idl.vals
 obtain⟨p0,q0,hb0,hz0⟩:=box2 w #[.string tb,.int .i64 (p:Int),nv,cv,.bool b] #[.string ⟨#[]⟩,.int .i64 0,.slice none 0 0,.slice none 0 0,.bool false] 32 32
 have hCn:=fun w1 (hb:Below w.heap.size w w1)=>cloneNm_any d.nm nv w1 (owns_below hN hb) hn
 have hCc:=fun w1 (hb:Below w.heap.size w w1)=>cloneCl_any d.cl cv w1 (owns_below hC hb) hc
 have HCn:=Lib.hid hCn
 have HCc:=Lib.hid hCc
 clear hCn hCc hN hC
 go_enter Tryz.func207,Tryz.ntmps207
 go_upto_region 1 with fail
 obtain⟨W0,hW0⟩:∃ W0,(w.alloc (.cells #[.string tb,.int .i64 (p:Int),nv,cv,.bool b] 32)).alloc (.cells #[.string ⟨#[]⟩,.int .i64 0,.slice none 0 0,.slice none 0 0,.bool false] 32)=W0:=⟨_,rfl⟩
 rw [hW0] at p0 q0 hb0 hz0 ⊢
 clear hW0
 have hbd:Below w.heap.size w W0.drew:=hb0.drew
 have hpd:Row W0.drew w.heap.size 32 #[.string tb,.int .i64 (p:Int),nv,cv,.bool b]:=p0.drew
 have hqd:Row W0.drew (w.heap.size+1) 32 #[.string ⟨#[]⟩,.int .i64 0,.slice none 0 0,.slice none 0 0,.bool false]:=q0.drew
 have c2:W0.cell? ⟨w.heap.size,2,none⟩=some nv:=p0.cell 2
 have c3:W0.cell? ⟨w.heap.size,3,none⟩=some cv:=p0.cell 3
 have f2:=p0.frozen 2
 have f3:=p0.frozen 3
 go_cut [2] from 3 to 10 (fun v wx=>v= .pointer (some ⟨w.heap.size+1,0,none⟩)∧OwnAt w w.heap.size tb p b d wx)
 case first=>
  have hmix:Tryz.prog.follows .mixedOrders=true:=by kernel_rfl
  go_region_with (first
   | (go_at_call 75
      first
       | (refine(HCn.out _ hbd).mono ?_;rintro e wa ⟨v1,rfl,hn1,hb1⟩;obtain⟨a1,k1,rfl⟩:=slice_of hn1
          have hbA:Below w.heap.size w wa:=hbd.trans (hb1.mono hbd.size)
          have hpA:=hpd.below hb1 hpd.lt
          have hqA:=hqd.below hb1 hqd.lt
          have a2:wa.cell? ⟨w.heap.size,2,none⟩=some nv:=hpA.cell 2
          have a3:wa.cell? ⟨w.heap.size,3,none⟩=some cv:=hpA.cell 3
          have af2:=hpA.frozen 2
          have af3:=hpA.frozen 3)
       | (refine(HCn.out _ hbB).mono ?_;rintro e wa ⟨v1,rfl,hn1,hb1⟩;obtain⟨a1,k1,rfl⟩:=slice_of hn1
          have hbA:Below w.heap.size w wa:=hbB.trans (hb1.mono hbB.size)
          have hpA:=hpB.below hb1 hpB.lt
          have hqA:=hqB.below hb1 hqB.lt
          have hcA:=owns_below hcB hb1
          have a2:wa.cell? ⟨w.heap.size,2,none⟩=some nv:=hpA.cell 2
          have a3:wa.cell? ⟨w.heap.size,3,none⟩=some cv:=hpA.cell 3
          have af2:=hpA.frozen 2
          have af3:=hpA.frozen 3))
   | (go_at_call 76
      first
       | (refine(HCc.out _ hbd).mono ?_;rintro e wb ⟨v2,rfl,hcB,hb2⟩;obtain⟨a2',k2,rfl⟩:=slice_of hcB
          have hbB:Below w.heap.size w wb:=hbd.trans (hb2.mono hbd.size)
          have hpB:=hpd.below hb2 hpd.lt
          have hqB:=hqd.below hb2 hqd.lt
          have b2:wb.cell? ⟨w.heap.size,2,none⟩=some nv:=hpB.cell 2
          have b3:wb.cell? ⟨w.heap.size,3,none⟩=some cv:=hpB.cell 3
          have bf2:=hpB.frozen 2
          have bf3:=hpB.frozen 3)
       | (refine(HCc.out _ hbA).mono ?_;rintro e wb ⟨v2,rfl,hcB,hb2⟩;obtain⟨a2',k2,rfl⟩:=slice_of hcB
          have hbB:Below w.heap.size w wb:=hbA.trans (hb2.mono hbA.size)
          have hpB:=hpA.below hb2 hpA.lt
          have hqB:=hqA.below hb2 hqA.lt
          have hnB:=owns_below hn1 hb2
          have b2:wb.cell? ⟨w.heap.size,2,none⟩=some nv:=hpB.cell 2
          have b3:wb.cell? ⟨w.heap.size,3,none⟩=some cv:=hpB.cell 3
          have bf2:=hpB.frozen 2
          have bf3:=hpB.frozen 3)))
  all_goals
   go_wp2
   go_meet
   refine⟨rfl,_,_,(hpB.store 2 _).store 3 _,(hqB.other (a:=⟨w.heap.size,2,none⟩) (by simp) _).other (a:=⟨w.heap.size,3,none⟩) (by simp) _,?_,?_,(hbB.setCell (p:=⟨w.heap.size,2,none⟩) (Nat.le_refl _) _).setCell (p:=⟨w.heap.size,3,none⟩) (Nat.le_refl _) _⟩
   · exact ownsRow_weak (ownsRow_setCell_below (a:=⟨w.heap.size,3,none⟩) (ownsRow_setCell_below (a:=⟨w.heap.size,2,none⟩) hnB (by show w.heap.size<W0.heap.size;omega) _) (by show w.heap.size<W0.heap.size;omega) _) (by show w.heap.size+2≤W0.heap.size;omega)
   · have hwa2:w.heap.size+2≤wa.heap.size:=by have:=hqA.lt;omega
     have hwa:w.heap.size<wa.heap.size:=hpA.lt
     exact ownsRow_weak (ownsRow_setCell_below (a:=⟨w.heap.size,3,none⟩) (ownsRow_setCell_below (a:=⟨w.heap.size,2,none⟩) hcB (by show w.heap.size<wa.heap.size;exact hwa) _) (by show w.heap.size<wa.heap.size;exact hwa) _) hwa2
 case rest=>
  obtain⟨rfl,nv',cv',hp,hq,hn',hc',hb'⟩:=hcut
  obtain⟨a1,k1,rfl⟩:=slice_of hn'
  obtain⟨a2,k2,rfl⟩:=slice_of hc'
  clear c2 c3 f2 f3 hbd hpd hqd p0 q0 hb0 hz0 HCn HCc
  have c0:=hp.cell 0
  change World.cell? _ _=some _ at c0
  have c1:=hp.cell 1
  change World.cell? _ _=some _ at c1
  have c2:=hp.cell 2
  change World.cell? _ _=some _ at c2
  have c3:=hp.cell 3
  change World.cell? _ _=some _ at c3
  have c4:=hp.cell 4
  change World.cell? _ _=some _ at c4
  have e0:=hq.cell 0
  change World.cell? _ _=some _ at e0
  have e1:=hq.cell 1
  change World.cell? _ _=some _ at e1
  have e2:=hq.cell 2
  change World.cell? _ _=some _ at e2
  have e3:=hq.cell 3
  change World.cell? _ _=some _ at e3
  have e4:=hq.cell 4
  change World.cell? _ _=some _ at e4
  have f0:=hq.frozen 0
  have f1:=hq.frozen 1
  have f2:=hq.frozen 2
  have f3:=hq.frozen 3
  have f4:=hq.frozen 4
  have Hq:=Lib.hid hq
  have Hn':=Lib.hid hn'
  have Hc':=Lib.hid hc'
  have Hb':=Lib.hid hb'
  clear hp hq hn' hc' hb'
  go_wp2
  refine bodyPost_ret (results_cell_row rfl _ _ (w.heap.size+1) 32 #[.string tb,.int .i64 (p:Int),.slice a1 d.nm.length k1,.slice a2 d.cl.length k2,.bool b] (0,0) _ rfl (((((Hq.out.store 0 _).store 1 _).store 2 _).store 3 _).store 4 _) Tryz.underlying32 rfl (by kernel_rfl)) rfl ⟨_,_,rfl,?_,?_,?_⟩
  · exact ownsRow_weak (ownsRow_setCell_below (a:=⟨w.heap.size+1,4,none⟩) (ownsRow_setCell_below (a:=⟨w.heap.size+1,3,none⟩) (ownsRow_setCell_below (a:=⟨w.heap.size+1,2,none⟩) (ownsRow_setCell_below (a:=⟨w.heap.size+1,1,none⟩) (ownsRow_setCell_below (a:=⟨w.heap.size+1,0,none⟩) Hn'.out (Nat.lt_succ_self _) _) (Nat.lt_succ_self _) _) (Nat.lt_succ_self _) _) (Nat.lt_succ_self _) _) (Nat.lt_succ_self _) _) (by omega)
  · exact ownsRow_weak (ownsRow_setCell_below (a:=⟨w.heap.size+1,4,none⟩) (ownsRow_setCell_below (a:=⟨w.heap.size+1,3,none⟩) (ownsRow_setCell_below (a:=⟨w.heap.size+1,2,none⟩) (ownsRow_setCell_below (a:=⟨w.heap.size+1,1,none⟩) (ownsRow_setCell_below (a:=⟨w.heap.size+1,0,none⟩) Hc'.out (Nat.lt_succ_self _) _) (Nat.lt_succ_self _) _) (Nat.lt_succ_self _) _) (Nat.lt_succ_self _) _) (Nat.lt_succ_self _) _) (by omega)
  · exact((((Hb'.out.setCell (p:=⟨w.heap.size+1,0,none⟩) (Nat.le_succ _) _).setCell (p:=⟨w.heap.size+1,1,none⟩) (Nat.le_succ _) _).setCell (p:=⟨w.heap.size+1,2,none⟩) (Nat.le_succ _) _).setCell (p:=⟨w.heap.size+1,3,none⟩) (Nat.le_succ _) _).setCell (p:=⟨w.heap.size+1,4,none⟩) (Nat.le_succ _) _
end Go.Proofs.YtpnbkfboneabaaaGreat
