import Derived.Test.YtpnbkfboneabaaaGreatGD
import Derived.Test.YtpnbkfboneabaaaGreatGA
set_option maxRecDepth 100000
set_option maxHeartbeats 2000000
namespace Go.Proofs.YtpnbkfboneabaaaGreat
open Go.RowKit
def Aes.keyAt (l:List Nat) (k:Nat):List Nat:=(l.drop (16*k)).take 16
def Aes.rounds (n:Nat) (l:List Nat) (back:Bool):List (List Nat × Bool):=
 (List.range (n+6)).map fun i=>if back then (Aes.keyAt l (n+6-i),decide (i=0)) else (Aes.keyAt l (i+1),decide (i=n+5))
def Aes.encs (x:List Nat × Bool):Array Value:=#[.agg (Bs.vals x.1),.bool x.2]
theorem Aes.rounds_length (n:Nat) (l:List Nat) (back:Bool):(Aes.rounds n l back).length=n+6:=by simp [Aes.rounds]
theorem Aes.rounds_at (n:Nat) (l:List Nat) (back:Bool) {i:Nat} (hi:i<n+6):Aes.rounds n l back=(Aes.rounds n l back).take i++
 (if back then (Aes.keyAt l (n+6-i),decide (i=0)) else (Aes.keyAt l (i+1),decide (i=n+5)))::(Aes.rounds n l back).drop (i+1):=by
 have h:i<(Aes.rounds n l back).length:=by rw [Aes.rounds_length];exact hi
 have e:(Aes.rounds n l back)[i]=(if back then (Aes.keyAt l (n+6-i),decide (i=0)) else (Aes.keyAt l (i+1),decide (i=n+5))):=by simp [Aes.rounds]
 rw [← e,List.getElem_cons_drop,List.take_append_drop]
theorem Aes.rounds_next (n:Nat) (l:List Nat) (back:Bool) {i:Nat} (hi:i<n+6):(Aes.rounds n l back).take (i+1)=(Aes.rounds n l back).take i++
 [if back then (Aes.keyAt l (n+6-i),decide (i=0)) else (Aes.keyAt l (i+1),decide (i=n+5))]:=by
 have h:i<(Aes.rounds n l back).length:=by rw [Aes.rounds_length];exact hi
 have e:(Aes.rounds n l back)[i]=(if back then (Aes.keyAt l (n+6-i),decide (i=0)) else (Aes.keyAt l (i+1),decide (i=n+5))):=by simp [Aes.rounds]
 rw [← e,List.take_append_getElem h]
theorem Aes.keyAt_length {l:List Nat} {n k:Nat} (hl:l.length=16*(n+7)) (hk:k<n+7):(Aes.keyAt l k).length=16:=by simp [Aes.keyAt];omega
theorem Aes.keyAt_get {l:List Nat} {k t:Nat} (ht:t<16):l.getD (k*16+t) 0=(Aes.keyAt l k).getD t 0:=by
 simp [Aes.keyAt,List.getD_eq_getElem?_getD,List.getElem?_drop,ht,show 16*k+t=k*16+t by omega]
def KeysIn (b g n:Nat) (s:ByteArray) (l:List Nat) (c3 v:Value) (W:World):Prop:=
 Row W b 341 #[.string s,.int .u32 1,.int .i32 0,c3,v]∧(∃ cap,v= .slice (some ⟨g,0,none⟩) (n+7) cap)∧l.length=16*(n+7)∧∀ m,m<16*(n+7)→W.cell? ⟨g,m,none⟩=some (U (l.getD m 0))
theorem KeysIn.keep {b g n:Nat} {s:ByteArray} {l:List Nat} {c3 v:Value} {W W':World} {S:Nat→Prop} (h:KeysIn b g n s l c3 v W) (hk:Keep S W W') (hb:S b) (hg:S g):KeysIn b g n s l c3 v W':=
 ⟨h.1.keep hk hb,h.2.1,h.2.2.1,fun m hm=>hk.cell (p:=⟨g,m,none⟩) hg (h.2.2.2 m hm)⟩
def RdAt (J:List (List Nat × Bool)→World→Prop) (b g n:Nat) (s:ByteArray) (l:List Nat) (c3 v:Value) (bb:Nat) (back:Bool) (vi:Value) (wr:World):Prop:=
 ∃ i:Nat,i≤n+6∧vi= .int .i64 ((i:Int)+1)∧J ((Aes.rounds n l back).take i) wr∧KeysIn b g n s l c3 v wr∧wr.cell? ⟨bb,0,none⟩=some (.bool back)
theorem rounds1_on (b bc bb n:Nat) (hn:n=4∨n=8) (s:ByteArray) (l:List Nat) (c3:Value) (need:Nat→Prop) (hnb:need b) (hnc:need bc) (hnk:need bb) (hcb:bc≠b) (hbb:bb≠b) (w:World)
 (hc:w.cell? ⟨bc,0,none⟩=some (.pointer (some ⟨b,0,none⟩))) (hk:w.cell? ⟨bb,0,none⟩=some (.bool false))
 (hkeys:∀ W,Keep need w W→w.heap.size+2≤W.heap.size→Calls Tryz.prog 268 #[.pointer (some ⟨b,0,none⟩)] W fun e W'=>∃ v g,e= .returned v∧need g∧KeysIn b g n s l c3 v W'∧Keep (fun k=>k≠b) W W'):
 SeqF Tryz.prog 287 #[.pointer (some ⟨bc,0,none⟩),.pointer (some ⟨bb,0,none⟩)] Aes.encs (Aes.rounds n l false)
  (fun k=>k=b) need (fun W=>∃ v g,need g∧KeysIn b g n s l c3 v W) w:=by
 intro lp J Jx W hW hz hJ hJx hY h0
 have hc1:=hW.cell (p:=⟨bc,0,none⟩) hnc hc
 have hk1:=hW.cell (p:=⟨bb,0,none⟩) hnk hk
 have Hkeys:=Lib.hid (hkeys W hW hz)
 refine(callsIn_wide (n:=9)).1 ?_
 refine callsIn_of_wp Tryz.func287 rfl trivial ?_ rfl
 simp only [Tryz.ntmps287,List.size_toArray,List.length_cons,List.length_nil,Nat.reduceAdd,Nat.reduceSub,Array.replicate_succ,Array.replicate_zero,List.push_toArray,List.append_toArray,List.nil_append,List.cons_append]
 clear hkeys
 gi_wp2_with (refine⟨trivial,?_⟩;gi_at_call 268;refine(callsIn_wide.2 Hkeys.out).mono ?_;rintro e w2 ⟨v,g,rfl,hng,hin,hkp⟩;obtain⟨cap,rfl⟩:=hin.2.1)
 have hst:RdAt J b g n s l c3 (.slice (some ⟨g,0,none⟩) (n+7) cap) bb false (.int .i64 1) w2:=⟨0,by omega,rfl,by rw [List.take_zero];exact hJ _ _ _ h0 (hkp.mono fun k h _=>h),hin,hkp.cell (p:=⟨bb,0,none⟩) hbb hk1⟩
 have hll:=hin.2.2.1
 have Hst:=Lib.hid hst
 clear hst hin hkp hc1 hk1 hc hk h0 Hkeys hW
 gi_loopw [6] (fun vi wr=>RdAt J b g n s l c3 (.slice (some ⟨g,0,none⟩) (n+7) cap) bb false vi wr) (fun vi _=>n+7-(intOf vi).toNat)
 case atStart=>exact Hst.out
 case round=>
  clear Hst
  obtain⟨i,hi,rfl,hj,hin,hk1⟩:=hrel
  by_cases hlt:i<n+6
  · have hY1:=hY _ _ _ (Aes.rounds_at n l false hlt) wr hj
    have hnext:=Aes.rounds_next n l false hlt
    simp only [Bool.false_eq_true,if_false] at hY1 hnext
    obtain⟨K,hK⟩:∃ K,Aes.keyAt l (i+1)=K:=⟨_,rfl⟩
    have hKl:K.length=16:=by rw [← hK];exact Aes.keyAt_length hll (by omega)
    obtain⟨kk,hkk⟩:∃ kk,(i+1)=kk:=⟨_,rfl⟩
    rw [hkk] at hK
    have hK2:=hK
    rw [← hkk] at hK2
    rw [hK2] at hY1 hnext
    have hget:∀ t,t<16→wr.cell? ⟨g,kk*16+t,none⟩=some (U (K.getD t 0)):=fun t ht=>by
     rw [hin.2.2.2 _ (by omega),Aes.keyAt_get ht,hK]
    have q0:=hget 0 (by decide)
    have q1:=hget 1 (by decide)
    have q2:=hget 2 (by decide)
    have q3:=hget 3 (by decide)
    have q4:=hget 4 (by decide)
    have q5:=hget 5 (by decide)
    have q6:=hget 6 (by decide)
    have q7:=hget 7 (by decide)
    have q8:=hget 8 (by decide)
    have q9:=hget 9 (by decide)
    have q10:=hget 10 (by decide)
    have q11:=hget 11 (by decide)
    have q12:=hget 12 (by decide)
    have q13:=hget 13 (by decide)
    have q14:=hget 14 (by decide)
    have q15:=hget 15 (by decide)
    rw [Nat.add_zero] at q0
    have hK16:=list16 hKl
    generalize K.getD 0 0=k0 at*
    generalize K.getD 1 0=k1 at*
    generalize K.getD 2 0=k2 at*
    generalize K.getD 3 0=k3 at*
    generalize K.getD 4 0=k4 at*
    generalize K.getD 5 0=k5 at*
    generalize K.getD 6 0=k6 at*
    generalize K.getD 7 0=k7 at*
    generalize K.getD 8 0=k8 at*
    generalize K.getD 9 0=k9 at*
    generalize K.getD 10 0=k10 at*
    generalize K.getD 11 0=k11 at*
    generalize K.getD 12 0=k12 at*
    generalize K.getD 13 0=k13 at*
    generalize K.getD 14 0=k14 at*
    generalize K.getD 15 0=k15 at*
    subst hK16
    have Hin:=Lib.hid hin
    have Hnext:=Lib.hid hnext
    obtain⟨fn,tmps,assign,body,hy,hR⟩:=hY1
    dsimp only [Aes.encs] at hy
    have hle:(i:Int)+1≤(n:Int)+7-1:=by omega
    have hki:(i:Int)+1=(kk:Int):=by omega
    have hle2:(kk:Int)≤(n:Int)+7-1:=by omega
    have hkr:kk<n+7:=by omega
    have hlast:((kk:Int) == (n:Int)+7-1)=decide (i=n+5):=by
     by_cases h0:i=n+5
     · rw [decide_eq_true h0,beq_iff_eq];omega
     · rw [decide_eq_false h0,beq_eq_false_iff_ne];omega
    generalize decide (i=n+5)=last at*
    clear hget hnext hin hK hK2 hKl hj
    simp only [Bs.vals,List.map_cons,List.map_nil] at hy
    gi_wp2
    refine(hR 8).mono ?_
    rintro e W3 (⟨rfl,hj3,hk3⟩ | ⟨rfl,hx3⟩)
    · have hin3:=Hin.out.keep hk3 hnb hng
      have hb3:=hk3.cell (p:=⟨bb,0,none⟩) hnk hk1
      have hnx:RdAt J b g n s l c3 (.slice (some ⟨g,0,none⟩) (n+7) cap) bb false (.int .i64 ((i:Int)+1+1)) W3:=⟨i+1,by omega,rfl,by rw [Hnext.out];exact hj3,hin3,hb3⟩
      rw [hki] at hnx
      have Hnx:=Lib.hid hnx
      clear hnx hj3 hk3 hin3 hb3
      gi_wp2
      go_roundw
      all_goals first | exact Hnx.out | (simp [intOf];omega)
    · have Hx:=Lib.hid hx3
      gi_wp2
      refine bodyPost_ret (results_none rfl _ _ _) rfl ?_
      refine⟨⟨_,rfl⟩,.inr ⟨_,(Aes.rounds n l false).drop (i+1),?_,Hx.out⟩⟩
      rw [← Hnext.out,List.take_append_drop]
  · obtain rfl:i=n+6:=by omega
    have hle:¬ (n:Int)+6+1≤(n:Int)+7-1:=by omega
    have Hj:Hid (J (Aes.rounds n l false) wr):=by
     rw [List.take_of_length_le (by rw [Aes.rounds_length];omega)] at hj;exact hj
    have Hin:=Lib.hid hin
    clear hj hin
    gi_wp2
    go_end0
    exact⟨⟨_,rfl⟩,.inl ⟨Hj.out,_,g,hng,Hin.out⟩⟩
end Go.Proofs.YtpnbkfboneabaaaGreat
