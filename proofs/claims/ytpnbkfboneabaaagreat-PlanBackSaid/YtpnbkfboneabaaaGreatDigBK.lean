import Derived.Test.YtpnbkfboneabaaaGreatDigAK
import Derived.Test.YtpnbkfboneabaaaGreatGA
import Derived.OwnWalkIn
import Derived.TacticsInMore
import Derived.LoopNIn
import Derived.LoopIn
import Derived.Shelf.Abstract
import Derived.Shelf.RegionOpen
import Derived.Sort.QuietTacIn
import Derived.StillTailTactics
set_option maxRecDepth 100000
set_option maxHeartbeats 2000000
namespace Go.Proofs.YtpnbkfboneabaaaGreat
open Go.RowKit
namespace Ws
abbrev vals (l:List Int):Array Value:=(l.map (Value.int .u32)).toArray
theorem get (l:List Int) {j:Nat} (h:j<l.length):(vals l)[j]? =some (.int .u32 (l.getD j 0)):=by simp [vals,List.getD_eq_getElem?_getD,h]
theorem set (l:List Int) (j:Nat) (x:Int):(vals l).setIfInBounds j (.int .u32 x)=vals (l.set j x):=by simp [vals]
end Ws
namespace Sha
def sig0 (x:Int):Int:=bits .xor .u32 (bits .xor .u32 (rot 7 x) (rot 18 x)) (x / 8)
def sig1 (x:Int):Int:=bits .xor .u32 (bits .xor .u32 (rot 17 x) (rot 19 x)) (x / 1024)
def step (B:List Nat) (i:Nat) (R:List Int):List Int:=
 if i<16 then R.set i (word ((B.drop (4*i)).take 4))
 else R.set (i%16) ((R.getD (i%16) 0+((R.getD ((i+9)%16) 0+sig0 (R.getD ((i+1)%16) 0))%4294967296+sig1 (R.getD ((i+14)%16) 0))%4294967296)%4294967296)
def rings (B:List Nat):Nat→List Int
 | 0=>List.replicate 16 0
 | i+1=>step B i (rings B i)
def words (B:List Nat):List (Nat × Int):=(List.range 64).map fun i=>(i,(rings B (i+1)).getD (i%16) 0)
def encs (x:Nat × Int):Array Value:=#[.int .i64 (x.1:Int),.int .u32 x.2]
theorem step_length (B:List Nat) (i:Nat) (R:List Int):(step B i R).length=R.length:=by unfold step;split <;> simp
theorem step_new (B:List Nat) (R:List Int) {i pa p1 p9 p14:Nat} (h:¬ i<16) (ha:i%16=pa) (h1:(i+1)%16=p1) (h9:(i+9)%16=p9) (h14:(i+14)%16=p14) (hl:pa<R.length):
 step B i R=R.set pa ((R.getD pa 0+((R.getD p9 0+sig0 (R.getD p1 0))%4294967296+sig1 (R.getD p14 0))%4294967296)%4294967296)∧
 (step B i R).getD (i%16) 0=(R.getD pa 0+((R.getD p9 0+sig0 (R.getD p1 0))%4294967296+sig1 (R.getD p14 0))%4294967296)%4294967296:=by
 have e:step B i R=R.set pa ((R.getD pa 0+((R.getD p9 0+sig0 (R.getD p1 0))%4294967296+sig1 (R.getD p14 0))%4294967296)%4294967296):=by
  rw [step,if_neg h,ha,h1,h9,h14]
 refine⟨e,?_⟩
 rw [e,ha,List.getD_eq_getElem?_getD,List.getElem?_set_self hl]
 rfl
theorem step_word (B:List Nat) (R:List Int) {i pa:Nat} (h:i<16) (ha:i%16=pa) (hl:pa<R.length):
 step B i R=R.set pa (word ((B.drop (4*i)).take 4))∧(step B i R).getD (i%16) 0=word ((B.drop (4*i)).take 4):=by
 have e:step B i R=R.set pa (word ((B.drop (4*i)).take 4)):=by
  rw [step,if_pos h,show i=pa by omega]
 refine⟨e,?_⟩
 rw [e,ha,List.getD_eq_getElem?_getD,List.getElem?_set_self hl]
 rfl
theorem rings_length (B:List Nat):∀ i,(rings B i).length=16
 | 0=>rfl
 | i+1=>by rw [rings,step_length,rings_length B i]
theorem words_length (B:List Nat):(words B).length=64:=by simp [words]
theorem words_at (B:List Nat) {i:Nat} (hi:i<64):words B=(words B).take i++(i,(rings B (i+1)).getD (i%16) 0)::(words B).drop (i+1):=by
 have h:i<(words B).length:=by rw [words_length];exact hi
 have e:(words B)[i]=(i,(rings B (i+1)).getD (i%16) 0):=by simp [words]
 rw [← e,List.getElem_cons_drop,List.take_append_drop]
theorem words_next (B:List Nat) {i:Nat} (hi:i<64):(words B).take (i+1)=(words B).take i++[(i,(rings B (i+1)).getD (i%16) 0)]:=by
 have h:i<(words B).length:=by rw [words_length];exact hi
 have e:(words B)[i]=(i,(rings B (i+1)).getD (i%16) 0):=by simp [words]
 rw [← e,List.take_append_getElem h]
end Sha
theorem ring_at (g p:Nat) (hp:p<16) (W:World):(Instr.indexAt 327 (.pointer (some ⟨g,0,none⟩)) (.int .i64 (p:Int))).run Tryz.prog W= .ok (.pointer (some ⟨g,p,none⟩)) W:=by
 have h:(p:Int)<16:=by omega
 go_simp
def RingAt (J:List (Nat × Int)→World→Prop) (g bc:Nat) (s:ByteArray) (B:List Nat) (vi:Value) (wr:World):Prop:=
 ∃ i:Nat,i≤64∧vi= .int .i64 (i:Int)∧J ((Sha.words B).take i) wr∧Row wr g 327 (Ws.vals (Sha.rings B i))∧wr.cell? ⟨bc,0,none⟩=some (.string s)
theorem schedule1_any (bc:Nat) (s:ByteArray) (hs:s.size=64) (need:Nat→Prop) (hnc:need bc) (w:World) (hnew:∀ k,w.heap.size+2≤k→need k) (hbc:bc<w.heap.size)
 (hc:w.cell? ⟨bc,0,none⟩=some (.string s)):
 SeqF Tryz.prog 261 #[.pointer (some ⟨bc,0,none⟩)] Sha.encs (Sha.words (bytesOf s)) (fun k=>w.heap.size+2≤k) need (fun _=>True) w:=by
 intro lp J Jx W hW hz hJ hJx hY h0
 have hc1:=hW.cell (p:=⟨bc,0,none⟩) hnc hc
 have hBl:(bytesOf s).length=64:=by rw [bytesOf_length,hs]
 obtain⟨B,hB⟩:∃ B,bytesOf s=B:=⟨_,rfl⟩
 rw [hB] at hBl hY ⊢
 have hst:RingAt J W.heap.size bc s B (.int .i64 0) (W.alloc (.cells #[.int .u32 0,.int .u32 0,.int .u32 0,.int .u32 0,.int .u32 0,.int .u32 0,.int .u32 0,.int .u32 0,.int .u32 0,.int .u32 0,.int .u32 0,.int .u32 0,.int .u32 0,.int .u32 0,.int .u32 0,.int .u32 0] 327)):=
  ⟨0,by decide,rfl,by rw [List.take_zero];exact hJ _ _ _ h0 ((Keep.refl _ _).alloc _),Row.new W _ _,((Keep.refl (fun _=>True) W).alloc _).cell (p:=⟨bc,0,none⟩) trivial hc1⟩
 have Hst:=Lib.hid hst
 have HJ:=Lib.hid hJ
 have HB:=Lib.hid hB
 obtain⟨g,hg⟩:∃ g,W.heap.size=g:=⟨_,rfl⟩
 rw [hg] at Hst hz
 have hng:=hnew g hz
 clear hst hc hW h0 hJ hc1 hB
 refine(callsIn_wide (n:=9)).1 ?_
 refine callsIn_of_wp Tryz.func261 rfl trivial ?_ rfl
 simp only [Tryz.ntmps261,List.size_toArray,List.length_cons,List.length_nil,Nat.reduceAdd,Nat.reduceSub,Array.replicate_succ,Array.replicate_zero,List.push_toArray,List.append_toArray,List.nil_append,List.cons_append]
 gi_wp2
 gi_loopw [8] (fun vi wr=>RingAt J g bc s B vi wr) (fun vi _=>64-(intOf vi).toNat)
 case atStart=>exact Hst.out
 case round=>
  clear Hst
  obtain⟨i,hi,rfl,hj,hrow,hc1⟩:=hrel
  have hRl:=Sha.rings_length B i
  by_cases hlt:i<64
  · have hY1:=hY _ _ _ (Sha.words_at B hlt)
    have Hnext:=Lib.hid (Sha.words_next B hlt)
    rw [Sha.rings] at hY1 Hnext
    have hg64:(i:Int)<64:=by omega
    obtain⟨R,hR⟩:∃ R,Sha.rings B i=R:=⟨_,rfl⟩
    rw [hR] at hrow hRl hY1 Hnext
    have HY1:=Lib.hid hY1
    have Hj:=Lib.hid hj
    obtain⟨pa,hpa,hpa1⟩:∃ pa:Nat,i%16=pa∧pa<16:=⟨_,rfl,Nat.mod_lt _ (by decide)⟩
    have ha:(i:Int)%16=(pa:Int):=by omega
    have fa:=hrow.frozen pa
    have ca:=hrow.cell pa
    rw [Ws.get _ (by omega)] at ca
    clear hY1 hj hY
    by_cases h16:i<16
    · have hg16:(i:Int)<16:=by omega
      have hsl:∀ W,(Instr.slice 9 (.string s) (some (.int .i64 (4*(i:Int)))) (some (.int .i64 (4*(i:Int)+4))) none).run Tryz.prog W= .ok (.string (s.extract (4*i) (4*i+4))) W:=
       fun W=>sl_mid s (4*(i:Int)) (4*(i:Int)+4) (4*i) (4*i+4) (by omega) (by omega) (by omega) (by omega) W
      gi_wp2
      refine⟨trivial,?_⟩
      refine(callsIn_wide.2 (word_any (s.extract (4*i) (4*i+4)) (by rw [ByteArray.size_extract];omega) wr)).mono ?_
      rintro e w2 ⟨rfl,hb2⟩
      have ca2:=cell_below hb2 ca
      have fa2:=(frozen_below hb2 ca).trans fa
      have Hw:=Lib.hid (Sha.step_word B R h16 hpa (by omega))
      rw [Hw.out.2] at HY1 Hnext
      have hex:bytesOf (s.extract (4*i) (4*i+4))=(B.drop (4*i)).take 4:=by rw [bytesOf_extract _ _ _ (by omega),HB.out,show 4*i+4-4*i=4 by omega]
      have hky:Keep (fun k=>k<g) wr (w2.setCell ⟨g,pa,none⟩ (.int .u32 (Sha.word ((B.drop (4*i)).take 4)))):=((Keep.below hb2).mono fun _ _ _=>trivial).setCell (p:=⟨g,pa,none⟩) (fun h=>absurd h (by dsimp only;omega)) _
      have HJy:=Lib.hid (HJ.out _ _ _ Hj.out (hky.mono fun k hk _=>by omega))
      have Hbc:=Lib.hid (hky.cell (p:=⟨bc,0,none⟩) (by dsimp only;omega) hc1)
      have HRow:Hid (Row (w2.setCell ⟨g,pa,none⟩ (.int .u32 (Sha.word ((B.drop (4*i)).take 4)))) g 327 (Ws.vals (Sha.step B i R))∧Sha.rings B (i+1)=Sha.step B i R):=Lib.hid ⟨by
       have h:=(hrow.below hb2 hrow.lt).store pa (.int .u32 (Sha.word ((B.drop (4*i)).take 4)))
       rw [Ws.set] at h
       rw [Hw.out.1]
       exact h,by rw [Sha.rings,hR]⟩
      rw [hex]
      clear hky hb2 hsl hex
      obtain⟨fn,tmps,assign,body,hy,hR2⟩:=HY1.out _ HJy.out
      dsimp only [Sha.encs] at hy
      gi_wp2
      refine(hR2 8).mono ?_
      rintro e W3 (⟨rfl,hj3,hk3⟩ | ⟨rfl,hx3⟩)
      · have Hn:Hid (RingAt J g bc s B (.int .i64 ((i:Int)+1)) W3):=Lib.hid ⟨i+1,hlt,rfl,by rw [Hnext.out];exact hj3,by rw [HRow.out.2];exact HRow.out.1.keep hk3 hng,hk3.cell (p:=⟨bc,0,none⟩) hnc Hbc.out⟩
        clear hj3 hk3 hy hR2
        gi_wp2
        refine⟨Hn.out,?_⟩
        simp [intOf];omega
      · have Hx:=Lib.hid hx3
        clear hx3 hy hR2
        gi_wp2
        refine bodyPost_ret (results_none rfl _ _ _) rfl ?_
        refine⟨⟨_,rfl⟩,.inr ⟨_,(Sha.words B).drop (i+1),?_,Hx.out⟩⟩
        rw [← Hnext.out,List.take_append_drop]
    · have hg16:¬ (i:Int)<16:=by omega
      obtain⟨p1,hp1,hp11⟩:∃ p:Nat,(i+1)%16=p∧p<16:=⟨_,rfl,Nat.mod_lt _ (by decide)⟩
      obtain⟨p9,hp9,hp91⟩:∃ p:Nat,(i+9)%16=p∧p<16:=⟨_,rfl,Nat.mod_lt _ (by decide)⟩
      obtain⟨p14,hp14,hp141⟩:∃ p:Nat,(i+14)%16=p∧p<16:=⟨_,rfl,Nat.mod_lt _ (by decide)⟩
      have e1:((i:Int)+1)%16=(p1:Int):=by omega
      have e9:((i:Int)+9)%16=(p9:Int):=by omega
      have e14:((i:Int)+14)%16=(p14:Int):=by omega
      have w1:IntKind.i64.wrap ((i:Int)+1)=(i:Int)+1:=IntWalk.i64_in _ (by omega)
      have w9:IntKind.i64.wrap ((i:Int)+9)=(i:Int)+9:=IntWalk.i64_in _ (by omega)
      have w14:IntKind.i64.wrap ((i:Int)+14)=(i:Int)+14:=IntWalk.i64_in _ (by omega)
      have t1:((i:Int)+1).tmod 16=(p1:Int):=by rw [Int.tmod_eq_emod_of_nonneg (by omega),e1]
      have t9:((i:Int)+9).tmod 16=(p9:Int):=by rw [Int.tmod_eq_emod_of_nonneg (by omega),e9]
      have t14:((i:Int)+14).tmod 16=(p14:Int):=by rw [Int.tmod_eq_emod_of_nonneg (by omega),e14]
      have x1:=fun W=>ring_at g p1 hp11 W
      have x9:=fun W=>ring_at g p9 hp91 W
      have x14:=fun W=>ring_at g p14 hp141 W
      have xa:=fun W=>ring_at g pa hpa1 W
      have c1:=hrow.cell p1
      have c9:=hrow.cell p9
      have c14:=hrow.cell p14
      rw [Ws.get _ (by omega)] at c1 c9 c14
      have hV:=Lib.hid (Sha.step_new B R h16 hpa hp1 hp9 hp14 (by omega))
      obtain⟨v1,hv1⟩:∃ v,R.getD p1 0=v:=⟨_,rfl⟩
      obtain⟨v9,hv9⟩:∃ v,R.getD p9 0=v:=⟨_,rfl⟩
      obtain⟨v14,hv14⟩:∃ v,R.getD p14 0=v:=⟨_,rfl⟩
      obtain⟨va,hva⟩:∃ v,R.getD pa 0=v:=⟨_,rfl⟩
      rw [hv1,hv9,hv14,hva] at hV
      rw [hv1] at c1
      rw [hv9] at c9
      rw [hv14] at c14
      rw [hva] at ca
      clear hv1 hv9 hv14 hva
      have HV:=Lib.hid hV.out.1
      have HG:=Lib.hid hV.out.2
      clear hV
      rw [HG.out] at HY1 Hnext
      gi_wp2
      gi_quiet_th (fail)
      have k7:∀ w,Calls Tryz.prog 250 #[.int .i64 7,.int .u32 v1] w fun e w'=>e= .returned (.int .u32 (Sha.rot 7 v1))∧w'=w:=fun w=>right_any 7 (by decide) v1 w
      have k18:∀ w,Calls Tryz.prog 250 #[.int .i64 18,.int .u32 v1] w fun e w'=>e= .returned (.int .u32 (Sha.rot 18 v1))∧w'=w:=fun w=>right_any 18 (by decide) v1 w
      have k17:∀ w,Calls Tryz.prog 250 #[.int .i64 17,.int .u32 v14] w fun e w'=>e= .returned (.int .u32 (Sha.rot 17 v14))∧w'=w:=fun w=>right_any 17 (by decide) v14 w
      have k19:∀ w,Calls Tryz.prog 250 #[.int .i64 19,.int .u32 v14] w fun e w'=>e= .returned (.int .u32 (Sha.rot 19 v14))∧w'=w:=fun w=>right_any 19 (by decide) v14 w
      obtain⟨wq,hwq⟩:∃ wq,wr.drewN nq=wq:=⟨_,rfl⟩
      have hrq:Row wq g 327 (Ws.vals R):=by rw [← hwq];exact hrow
      have caq:wq.cell? ⟨g,pa,none⟩=some (.int .u32 va):=by rw [← hwq];exact ca
      have c9q:wq.cell? ⟨g,p9,none⟩=some (.int .u32 v9):=by rw [← hwq];exact c9
      have faq:wq.frozen? ⟨g,pa,none⟩=false:=by rw [← hwq];exact fa
      rw [hwq]
      gi_wp2
      refine wpIn_wide.2 ?_
      go_still_tail 27,(by kernel_rfl)
      still_call (k7 _)
      repeat still_step
      still_call (k18 _)
      repeat still_step
      still_call (k17 _)
      repeat still_step
      still_call (k19 _)
      repeat still_step
      refine wpStill_nil ?_
      change wpList _ _ _ _ _ wq.drew
      have hkq:Keep (fun k=>k<g) wr ((wq.setCell ⟨g,pa,none⟩ (.int .u32 ((va+((v9+Sha.sig0 v1)%4294967296+Sha.sig1 v14)%4294967296)%4294967296))).drew):=by
       rw [← hwq]
       exact(⟨rfl,rfl,rfl,Nat.le_refl _,fun _ _ _=>rfl⟩:Keep (fun k=>k<g) wr (wr.drewN nq).drew).setCell (p:=⟨g,pa,none⟩) (fun h=>absurd h (by dsimp only;omega)) _
      have HJy:=Lib.hid (HJ.out _ _ _ Hj.out (hkq.mono fun k hk _=>by omega))
      have Hbc:=Lib.hid (hkq.cell (p:=⟨bc,0,none⟩) (by dsimp only;omega) hc1)
      have HRow:Hid (Row ((wq.setCell ⟨g,pa,none⟩ (.int .u32 ((va+((v9+Sha.sig0 v1)%4294967296+Sha.sig1 v14)%4294967296)%4294967296))).drew) g 327 (Ws.vals (Sha.step B i R))∧Sha.rings B (i+1)=Sha.step B i R):=Lib.hid ⟨by
       have h:=hrq.drew.store pa (.int .u32 ((va+((v9+Sha.sig0 v1)%4294967296+Sha.sig1 v14)%4294967296)%4294967296))
       rw [Ws.set] at h
       rw [HV.out]
       exact h,by rw [Sha.rings,hR]⟩
      clear hkq
      unfold Sha.sig0 Sha.sig1 at HJy Hbc HRow HY1 Hnext
      go_wp2
      generalize (va+((v9+bits BinOp.xor IntKind.u32 (bits BinOp.xor IntKind.u32 (Sha.rot 7 v1) (Sha.rot 18 v1)) (v1 / 8))%4294967296+bits BinOp.xor IntKind.u32 (bits BinOp.xor IntKind.u32 (Sha.rot 17 v14) (Sha.rot 19 v14)) (v14 / 1024))%4294967296)%4294967296=V at HJy Hbc HRow HY1 Hnext ⊢
      obtain⟨fn,tmps,assign,body,hy,hR2⟩:=HY1.out _ HJy.out
      dsimp only [Sha.encs] at hy
      gi_wp2
      refine(hR2 8).mono ?_
      rintro e W3 (⟨rfl,hj3,hk3⟩ | ⟨rfl,hx3⟩)
      · have Hn:Hid (RingAt J g bc s B (.int .i64 ((i:Int)+1)) W3):=Lib.hid ⟨i+1,hlt,rfl,by rw [Hnext.out];exact hj3,by rw [HRow.out.2];exact HRow.out.1.keep hk3 hng,hk3.cell (p:=⟨bc,0,none⟩) hnc Hbc.out⟩
        clear hj3 hk3 hy hR2
        gi_wp2
        refine⟨Hn.out,?_⟩
        simp [intOf];omega
      · have Hx:=Lib.hid hx3
        clear hx3 hy hR2
        gi_wp2
        refine bodyPost_ret (results_none rfl _ _ _) rfl ?_
        refine⟨⟨_,rfl⟩,.inr ⟨_,(Sha.words B).drop (i+1),?_,Hx.out⟩⟩
        rw [← Hnext.out,List.take_append_drop]
  · have hg64:¬ (i:Int)<64:=by omega
    obtain rfl:i=64:=by omega
    rw [List.take_of_length_le (by rw [Sha.words_length];exact Nat.le_refl _)] at hj
    have Hj:=Lib.hid hj
    gi_wp2
    exact⟨rfl,_,results_none rfl _ _ _,⟨_,rfl⟩,.inl Hj.out⟩
end Go.Proofs.YtpnbkfboneabaaaGreat
