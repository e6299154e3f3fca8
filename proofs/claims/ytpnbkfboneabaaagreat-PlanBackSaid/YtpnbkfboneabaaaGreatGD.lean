import Derived.Test.YtpnbkfboneabaaaGreatAesDK
import Derived.Test.YtpnbkfboneabaaaGreatChecked
import Derived.Test.YtpnbkfboneabaaaGreatGA
import Derived.WalkKit
import Derived.ProofKit
import Derived.BigQuiet
import Derived.Lib.Hide
import Derived.Tactics2
import Derived.Defers
import Derived.Laws.Pointers
import Derived.Laws.LoneSync
import Derived.RegionTactic
import Derived.RegionCalls
import Derived.ChangeAlike
set_option maxRecDepth 100000
set_option maxHeartbeats 2000000
namespace Go.Proofs.YtpnbkfboneabaaaGreat
open Go.RowKit
theorem step_append_owns {P:Program} {ops:Array Oper} {o:Oper} {a:Act} {w:World} {K:Act→World→Prop} {Q:Exit→Act→World→Prop} {E:Prop}
 (hg:o.guard=none) (s x:Operand) (t:TypeId) (ho:o.op= .call { callee:= .builtin .append,args:=#[s,x],argTypes:=#[t,t] })
 (base:Nat) (e:TypeId) (i:TypeInfo) (z:Value) (size bytes:Nat) (ht:P.underlying t=some (.slice e)) (hi:P.info? e=some i) (hz:i.zero=some z)
 (hsize:i.size=size) (hby:i.bytes=bytes) (hzs:z.cells.size=size) (hsz:0<size)
 (v:Value) (n:Nat) (xs:List Value) (hs:a.eval s=v) (hown:w.ownsRow base e size v n xs)
 (ad:Addr) (m c:Nat) (news:List Value) (hx:a.eval x= .slice (some ad) m c) (hl:news.length=m*size) (hnews:∀ j u,news[j]? =some u→w.cell? (ad.add j)=some u) (h1:∀ u∈news,u.oneCell'=true)
 (h63:n+m≤maxLen) (hbytes:(n+m)*bytes≤140737488355328) (hbase:base≤w.heap.size)
 (h:∀ v' w',w'.ownsRow base e size v' (n+m) (xs++news)→w.grownBy w' v.ownBlock→K (a.put o.dst v') w'):
 if Region.wanted o (yielded ops a.tmps)=true then Oper.wp P o a w K Q else E:=by
 have hw:Region.wanted o (yielded ops a.tmps)=true:=by simp [Region.wanted,hg]
 rw [if_pos hw]
 exact wp_append_own w s x t ho base e i z size bytes ht hi hz hsize hby hzs hsz v n xs hs hown ad m c news hx hl hnews h1 h63 hbytes hbase fun v' w' a1 a2 _=>h v' w' a1 a2
theorem Aes.infoState:(Tryz.prog.info? 335).map (fun i=>(i.zero,i.size,i.bytes))=some (some (.agg #[.int .u8 0,.int .u8 0,.int .u8 0,.int .u8 0,.int .u8 0,.int .u8 0,.int .u8 0,.int .u8 0,.int .u8 0,.int .u8 0,.int .u8 0,.int .u8 0,.int .u8 0,.int .u8 0,.int .u8 0,.int .u8 0]),16,16):=by kernel_rfl
theorem Aes.size_word:Tryz.prog.elem 351=353:=by kernel_rfl
theorem Aes.cells_word:Tryz.prog.cellsOf 353=4:=by kernel_rfl
theorem Aes.words_h (g o ln cp:Nat) (h:4≤cp) (W:World):
 (Instr.slice 351 (.slice (some ⟨g,o,none⟩) ln cp) none (some (.int .i64 4)) none).run Tryz.prog W= .ok (.slice (some ⟨g,o,none⟩) 4 cp) W:=by
 rw [run_slice_h (P:=Tryz.prog) (w:=W) 351 (some ⟨g,o,none⟩) ln cp (by rw [Aes.size_word];exact Tryz.underlying351) .i64 4 (by decide) (by omega)]
 rw [Aes.size_word,run_sizeOf W (i:=(Tryz.prog.info? 353).getD default) (by kernel_rfl),Aes.cells_word]
 simp [sliced,Addr.add_mid]
theorem Aes.words_l (g o ln cp:Nat) (h:4≤ln) (h2:ln≤cp):
 ∃ o2,(∀ W:World,(Instr.slice 351 (.slice (some ⟨g,o,none⟩) ln cp) (some (.int .i64 4)) none none).run Tryz.prog W= .ok (.slice (some ⟨g,o2,none⟩) (ln-4) (cp-4)) W)∧(4<cp→o2=o+16):=by
 by_cases hc:cp=4
 · subst hc
   refine⟨o,fun W=> ?_,by omega⟩
   rw [run_slice_l (P:=Tryz.prog) (w:=W) 351 (some ⟨g,o,none⟩) ln 4 (by rw [Aes.size_word];exact Tryz.underlying351) .i64 4 (by decide) (by omega)]
   rw [Aes.size_word,run_sizeOf W (i:=(Tryz.prog.info? 353).getD default) (by kernel_rfl),Aes.cells_word]
   simp [sliced]
 · refine⟨o+16,fun W=> ?_,fun _=>rfl⟩
   rw [run_slice_l (P:=Tryz.prog) (w:=W) 351 (some ⟨g,o,none⟩) ln cp (by rw [Aes.size_word];exact Tryz.underlying351) .i64 4 (by decide) (by omega)]
   rw [Aes.size_word,run_sizeOf W (i:=(Tryz.prog.info? 353).getD default) (by kernel_rfl),Aes.cells_word]
   simp [sliced,hc,Addr.add_mid]
theorem Keep.on {S T:Nat→Prop} {a b c:World} (h:Keep S a b) (k:Keep T b c) (hst:∀ j,S j→j<a.heap.size→T j):Keep S a c:=
 ⟨k.os.trans h.os,k.tape.trans h.tape,k.output.trans h.output,Nat.le_trans h.size k.size,fun j hj hl=>(k.block j (hst j hj hl) (Nat.lt_of_lt_of_le hl h.size)).trans (h.block j hj hl)⟩
theorem owns_apart {W:World} {b1 b2:Nat} {e1 e2:TypeId} {s1 s2 n1 n2:Nat} {v1 v2:Value} {xs1 xs2:List Value} (h:W.ownsRow b1 e1 s1 v1 n1 xs1) (k:W.ownsRow b2 e2 s2 v2 n2 xs2) (hne:e1≠e2) {g:Nat} (hg:v2.ownBlock=some g):
 v1.ownBlock≠some g:=by
 intro hg1
 rcases h.2 with ⟨rfl,_⟩ | ⟨g1,c1,cur1,rfl,_,h1,_⟩
 · simp [Value.ownBlock] at hg1
 rcases k.2 with ⟨rfl,_⟩ | ⟨g2,c2,cur2,rfl,_,h2,_⟩
 · simp [Value.ownBlock] at hg
 simp only [Value.ownBlock,Option.some.injEq] at hg hg1
 subst hg hg1
 rw [h1] at h2
 simp only [Option.some.injEq,Obj.cells.injEq] at h2
 exact hne h2.2.1
theorem list16 {l:List Nat} (h:l.length=16):l=[l.getD 0 0,l.getD 1 0,l.getD 2 0,l.getD 3 0,l.getD 4 0,l.getD 5 0,l.getD 6 0,l.getD 7 0,l.getD 8 0,l.getD 9 0,l.getD 10 0,l.getD 11 0,l.getD 12 0,l.getD 13 0,l.getD 14 0,l.getD 15 0]:=by
 apply List.ext_getElem
 · simp [h]
 · intro i h1 h2
   have:i<16:=by omega
   rcases i with _ | _ | _ | _ | _ | _ | _ | _ | _ | _ | _ | _ | _ | _ | _ | _ | i <;> first | omega | simp [List.getD_eq_getElem?_getD,h]
def vlen:Value→Nat
 | .slice _ n _=>n
 | _=>0
def KAt (g:Nat) (new:List Nat) (w:World) (vj:Value) (wr:World):Prop:=
 ∃ j:Nat,j≤4∧vj= .int .i64 (j:Int)∧Row wr g 335 (Bs.vals (Bs.upTo (4*j) new (List.replicate 16 0)))∧Keep (fun k=>k≠g) w wr
def MadeAt (b g cap n:Nat) (l:List Nat) (c0 c1 c2 c3:Value) (w:World) (vs:Value) (wr:World):Prop:=
 ∃ i o ln cp v,ln+4*i=4*n+28∧cp+4*i=cap∧(0<ln→o=16*i)∧vs= .slice (some ⟨g,o,none⟩) ln cp∧ln%4=0∧
   wr.ownsRow w.heap.size 353 4 (.slice (some ⟨g,0,none⟩) (4*n+28) cap) (4*n+28) (l.map U)∧
   Row wr b 341 #[c0,c1,c2,c3,v]∧wr.ownsRow w.heap.size 335 16 v i ((l.take (16*i)).map U)∧v.ownBlock≠some g∧Keep (fun k=>k≠b) w wr
theorem expand_any (b n:Nat) (s:ByteArray) (hn:n=4∨n=8) (hs:s.size=4*n) (c1 c2 c3:Value) (w:World) (hr:Row w b 341 #[.string s,c1,c2,c3,.slice none 0 0]):
 Calls Tryz.prog 274 #[.pointer (some ⟨b,0,none⟩)] w fun e w'=>e= .returned (.tuple #[])∧∃ v,Row w' b 341 #[.string s,c1,c2,c3,v]∧
  w'.ownsRow w.heap.size 335 16 v (n+7) ((Aes.expanded (bytesOf s)).map U)∧Keep (fun k=>k≠b) w w':=by
 have q0:=hr.cell 0
 have f0:=hr.frozen 0
 obtain⟨i0,hi0,hz0,hz1,hz2⟩:=info_parts Aes.infoState
 have hbw:=hr.lt
 have Hr:=Lib.hid hr
 go_enter Tryz.func274,Tryz.ntmps274
 go_wp2_with fail
 refine(expanded_any s n hn hs _).mono ?_
 rintro e w1 ⟨g,cap,rfl,hown,hB⟩
 have hlen:(Aes.expanded (bytesOf s)).length=4*(4*n+28):=by have:=hown.1;simpa using this.trans (Nat.mul_comm _ _)
 have hst:MadeAt b g cap n (Aes.expanded (bytesOf s)) (.string s) c1 c2 c3 w (.slice (some ⟨g,0,none⟩) (4*n+28) cap) w1:=
  ⟨0,0,4*n+28,cap,.slice none 0 0,by omega,by omega,fun _=>rfl,rfl,by omega,hown,Hr.out.below hB Hr.out.lt,by simpa using World.ownsRow_nil w1 w.heap.size _ 16,by simp [Value.ownBlock],Keep.below hB⟩
 have Hst:=Lib.hid hst
 clear hst hown hB q0 f0 hr
 obtain⟨l,hl⟩:∃ l,Aes.expanded (bytesOf s)=l:=⟨_,rfl⟩
 rw [hl] at Hst hlen
 have Hl:=Lib.hid hl
 clear hl
 go_wp2
 go_loopw [2] (fun vs wr=>MadeAt b g cap n l (.string s) c1 c2 c3 w vs wr) (fun vs _=>vlen vs)
 case atStart=>exact Hst.out
 case round=>
  clear Hst
  obtain⟨i,o,ln,cp,v,hln,hcp,ho,rfl,hl4,hown,hrb,hmade,hvg,hkeep⟩:=hrel
  by_cases hpos:0<ln
  · obtain rfl:o=16*i:=ho hpos
    have hl4:4≤ln:=by omega
    have hcap:4*n+28≤cap:=by
     rcases hown.2 with ⟨h,-⟩ | ⟨g',cap',cur,h,-,-,h2,-⟩
     · cases h
     · cases h;exact h2
    have hc4:4≤cp:=by omega
    have hlc:ln≤cp:=by omega
    have hs1:=fun W=>Aes.words_h g (16*i) ln cp hc4 W
    obtain⟨o2,hs2,ho2⟩:=Aes.words_l g (16*i) ln cp hl4 hlc
    have hposi:(0:Int)<(ln:Int):=by omega
    obtain⟨wk,hwk⟩:∃ wk,wr.alloc (.cells (Bs.vals (List.replicate 16 0)) 335)=wk:=⟨_,rfl⟩
    obtain⟨gk,hgk⟩:∃ gk,wr.heap.size=gk:=⟨_,rfl⟩
    have hst2:KAt gk ((l.drop (16*i)).take 16) wk (.int .i64 0) wk:=by
     refine⟨0,by decide,rfl,?_,Keep.refl _ _⟩
     rw [Bs.upTo_zero,← hwk,← hgk];exact Row.new _ _ _
    have Hst2:=Lib.hid hst2
    have Hown:=Lib.hid (hown.alloc (.cells (Bs.vals (List.replicate 16 0)) 335))
    have Hrb:=Lib.hid (hrb.alloc (.cells (Bs.vals (List.replicate 16 0)) 335))
    have Hmade:=Lib.hid (hmade.alloc (.cells (Bs.vals (List.replicate 16 0)) 335))
    have Hkeep:=Lib.hid (hkeep.alloc (.cells (Bs.vals (List.replicate 16 0)) 335))
    have hgs:g<gk:=by rw [← hgk];exact(hown.lt g rfl).2
    have hbs:b<gk:=by rw [← hgk];exact hrb.lt
    have hvs:v.ownBlock≠some gk:=fun h=>by have:=(hmade.lt _ h).2;omega
    have hwg:w.heap.size≤gk:=by rw [← hgk];exact hkeep.size
    rw [hwk] at Hown Hrb Hmade Hkeep
    have Hvs:=Lib.hid hvs
    have Hvg:=Lib.hid hvg
    have Hwk:=Lib.hid hwk
    clear hst2 hown hrb hmade hkeep hvs hvg ho hwk
    go_wp2
    rw [show wr.alloc (.cells #[.int .u8 0,.int .u8 0,.int .u8 0,.int .u8 0,.int .u8 0,.int .u8 0,.int .u8 0,.int .u8 0,.int .u8 0,.int .u8 0,.int .u8 0,.int .u8 0,.int .u8 0,.int .u8 0,.int .u8 0,.int .u8 0] 335)=wk from Hwk.out]
    clear Hwk hgk hs1
    have hnl:((l.drop (16*i)).take 16).length=16:=by simp;omega
    go_loopw [19] (fun vj wr=>KAt gk ((l.drop (16*i)).take 16) wk vj wr) (fun vj _=>4-(intOf vj).toNat)
    case atStart=>exact Hst2.out
    case round=>
     clear Hst2
     obtain⟨j,hj,rfl,hk,hkk⟩:=hrel
     by_cases hj4:j<4
     · have hj4':(j:Int)<4:=by omega
       have hown2:=owns_keep Hown.out hkk (fun k h=>by have:g=k:=(Option.some.inj h);omega)
       have hcell:∀ t,t<4→wr.cell? ⟨g,16*i+j*4+t,none⟩=some (U (l.getD (16*i+j*4+t) 0)):=fun t ht=>by
        rw [hown2.cellAt _ (by omega)]
        simp [List.getD_eq_getElem?_getD,show 16*i+j*4+t<l.length by omega]
       have q0:=hcell 0 (by decide)
       have q1:=hcell 1 (by decide)
       have q2:=hcell 2 (by decide)
       have q3:=hcell 3 (by decide)
       have hspl:=Bs.splice_upTo (o:=4*j) (new:=(l.drop (16*i)).take 16) (old:=List.replicate 16 0) (by rw [hnl];rfl) (by simp;omega)
       have hnew:∀ t,t<4→((l.drop (16*i)).take 16).getD (4*j+t) 0=l.getD (16*i+j*4+t) 0:=fun t ht=>by
        simp [List.getD_eq_getElem?_getD,List.getElem?_drop,show 4*j+t<16 by omega,show 16*i+(4*j+t)=16*i+j*4+t by omega]
       have hnew0:=hnew 0 (by decide)
       rw [Nat.add_zero,Nat.add_zero] at hnew0
       rw [Nat.add_zero] at q0
       rw [hnew0,hnew 1 (by decide),hnew 2 (by decide),hnew 3 (by decide)] at hspl
       have hs3:=Aes.slice_l gk (4*j) (by omega)
       rw [show ((4*j:Nat):Int)=4*(j:Int) from by omega] at hs3
       have hlen16:(Bs.upTo (4*j) ((l.drop (16*i)).take 16) (List.replicate 16 0)).length=16:=by rw [Bs.upTo_length (by rw [hnl];rfl)];rfl
       have Hspl:=Lib.hid hspl
       have hgk2:=hk.lt
       clear hspl hcell hnew hown2 hj hnew0
       generalize l.getD (16*i+j*4) 0=z0 at*
       generalize l.getD (16*i+j*4+1) 0=z1 at*
       generalize l.getD (16*i+j*4+2) 0=z2 at*
       generalize l.getD (16*i+j*4+3) 0=z3 at*
       have hrw:Row (wr.alloc (.cells #[U z0,U z1,U z2,U z3] 353)).drew gk 335 ((Bs.upTo (4*j) ((l.drop (16*i)).take 16) (List.replicate 16 0)).map U).toArray:=hk.alloc _
       have hkw:Keep (fun k=>k≠gk) wk (wr.alloc (.cells #[U z0,U z1,U z2,U z3] 353)).drew:=(hkk.alloc _).drew
       have hsrc:∀ t v,[U z0,U z1,U z2,U z3][t]? =some v→(wr.alloc (.cells #[U z0,U z1,U z2,U z3] 353)).drew.cell? ((⟨wr.heap.size,0,none⟩:Addr).add t)=some v:=fun t v hv=>by
        rw [Addr.add_mid,Nat.zero_add]
        exact((Row.new wr 353 #[U z0,U z1,U z2,U z3]).cell t).trans (by simpa using hv)
       have hlo:4*j+4≤((Bs.upTo (4*j) ((l.drop (16*i)).take 16) (List.replicate 16 0)).map U).length:=by rw [List.length_map,hlen16];omega
       have Hrw:=Lib.hid hrw
       have Hkw:=Lib.hid hkw
       have Hsrc:=Lib.hid hsrc
       have Hlo:=Lib.hid hlo
       have h12:4*(j:Int)≤16:=by omega
       have hj3:j≤3:=by omega
       have hwr:IntKind.i64.wrap (4*(j:Int))=4*(j:Int):=IntWalk.i64_in _ (by omega)
       clear hrw hkw hsrc hlo hk hkk hlen16 hj4
       go_wp2_with fail
       go_region_law (refine step_copy_keep rfl (.tmp 26) (.tmp 27) 42 42 rfl 5 Tryz.underlying42 (by kernel_rfl) gk (4*j) (16-4*j) (16-4*j) ⟨wr.heap.size,0,none⟩ 4 4 rfl rfl _ 335 Hrw.out [U z0,U z1,U z2,U z3] (Nat.min_eq_left (by omega:4≤16-4*j)).symm Hsrc.out Hlo.out (by simp [Value.oneCell']) ?_;intro w2 hg2 hk2)
       all_goals
        have hnx:Hid (KAt gk ((l.drop (16*i)).take 16) wk (.int .i64 ((j:Int)+1)) w2):=by
         refine⟨j+1,by omega,by rfl,?_,(Hkw.out).trans hk2⟩
         have h:=hg2.out
         rw [Hspl.out] at h
         exact h
        clear hg2 hk2
        go_wp2
        go_roundw
        case rel=>exact hnx.out
        case measure=>simp [intOf];omega
     · obtain rfl:j=4:=by omega
       have hj4':¬ ((4:Nat):Int)<4:=by omega
       obtain⟨K,hK⟩:∃ K,(l.drop (16*i)).take 16=K:=⟨_,rfl⟩
       rw [hK] at hk hnl
       rw [Bs.upTo_all (by omega) (by simp)] at hk
       have htk:l.take (16*(i+1))=l.take (16*i)++K:=by rw [← hK,Nat.mul_add,Nat.mul_one,List.take_add]
       have q0:=hk.cell 0
       have q1:=hk.cell 1
       have q2:=hk.cell 2
       have q3:=hk.cell 3
       have q4:=hk.cell 4
       have q5:=hk.cell 5
       have q6:=hk.cell 6
       have q7:=hk.cell 7
       have q8:=hk.cell 8
       have q9:=hk.cell 9
       have q10:=hk.cell 10
       have q11:=hk.cell 11
       have q12:=hk.cell 12
       have q13:=hk.cell 13
       have q14:=hk.cell 14
       have q15:=hk.cell 15
       rw [Bs.get K (by omega:0<K.length)] at q0
       rw [Bs.get K (by omega:1<K.length)] at q1
       rw [Bs.get K (by omega:2<K.length)] at q2
       rw [Bs.get K (by omega:3<K.length)] at q3
       rw [Bs.get K (by omega:4<K.length)] at q4
       rw [Bs.get K (by omega:5<K.length)] at q5
       rw [Bs.get K (by omega:6<K.length)] at q6
       rw [Bs.get K (by omega:7<K.length)] at q7
       rw [Bs.get K (by omega:8<K.length)] at q8
       rw [Bs.get K (by omega:9<K.length)] at q9
       rw [Bs.get K (by omega:10<K.length)] at q10
       rw [Bs.get K (by omega:11<K.length)] at q11
       rw [Bs.get K (by omega:12<K.length)] at q12
       rw [Bs.get K (by omega:13<K.length)] at q13
       rw [Bs.get K (by omega:14<K.length)] at q14
       rw [Bs.get K (by omega:15<K.length)] at q15
       have hK16:=list16 hnl
       have hown2:=owns_keep Hown.out hkk (fun k h=>by have:g=k:=(Option.some.inj h);omega)
       have hrb2:=Hrb.out.keep hkk (by omega)
       have hmade2:=owns_keep Hmade.out hkk (fun k h e=>Hvs.out (by rw [h,e]))
       have hkeep2:Keep (fun k=>k≠b) w wr:=Hkeep.out.on hkk (fun k _ hl=>by omega)
       have c4:=hrb2.cell 4
       have f4:=hrb2.frozen 4
       have hbr:=hrb2.lt
       clear hK hk hkk hnl
       generalize K.getD 0 0=k0 at*
       generalize K.getD 1 0=k1 at*
       generalize K.getD 2 0=k2 at*
       generalize K.getD 3 0=k3 at*
       generalize K.getD 4 0=k4 at*
       generalize K.getD 5 0=k5 at*
       generalize K.getD 6 0=k6 at*
       generalize K.getD 7 0=k7 at*
       generalize K.getD 8 0=k8 at*
       generalize K.getD 9 0=k9 at*
       generalize K.getD 10 0=k10 at*
       generalize K.getD 11 0=k11 at*
       generalize K.getD 12 0=k12 at*
       generalize K.getD 13 0=k13 at*
       generalize K.getD 14 0=k14 at*
       generalize K.getD 15 0=k15 at*
       have hnews:∀ t v,[U k0,U k1,U k2,U k3,U k4,U k5,U k6,U k7,U k8,U k9,U k10,U k11,U k12,U k13,U k14,U k15][t]? =some v→(wr.drew.alloc (.cells #[U k0,U k1,U k2,U k3,U k4,U k5,U k6,U k7,U k8,U k9,U k10,U k11,U k12,U k13,U k14,U k15] 335)).cell? ((⟨wr.drew.heap.size,0,none⟩:Addr).add t)=some v:=fun t v hv=>by
        rw [Addr.add_mid,Nat.zero_add]
        exact((Row.new wr.drew 335 #[U k0,U k1,U k2,U k3,U k4,U k5,U k6,U k7,U k8,U k9,U k10,U k11,U k12,U k13,U k14,U k15]).cell t).trans (by simpa using hv)
       have Hnews:=Lib.hid hnews
       have Hown2:=Lib.hid (hown2.drew.alloc (.cells #[U k0,U k1,U k2,U k3,U k4,U k5,U k6,U k7,U k8,U k9,U k10,U k11,U k12,U k13,U k14,U k15] 335))
       have Hmade2:=Lib.hid (hmade2.drew.alloc (.cells #[U k0,U k1,U k2,U k3,U k4,U k5,U k6,U k7,U k8,U k9,U k10,U k11,U k12,U k13,U k14,U k15] 335))
       have Hrb2:=Lib.hid (hrb2.drew.alloc (.cells #[U k0,U k1,U k2,U k3,U k4,U k5,U k6,U k7,U k8,U k9,U k10,U k11,U k12,U k13,U k14,U k15] 335))
       have Hkeep2:=Lib.hid (hkeep2.drew.alloc (.cells #[U k0,U k1,U k2,U k3,U k4,U k5,U k6,U k7,U k8,U k9,U k10,U k11,U k12,U k13,U k14,U k15] 335))
       have Htk:=Lib.hid htk
       have HK16:=Lib.hid hK16
       have hi14:i≤14:=by omega
       have Hvb:Hid (v.ownBlock≠some b):=Lib.hid (fun h=>by have:=(Hmade2.out.lt _ h).1;omega)
       clear hnews hown2 hmade2 hrb2 hkeep2 htk hK16
       go_wp2_with fail
       go_region_law (refine step_append_owns rfl (.tmp 34) (.tmp 36) 333 rfl w.heap.size 335 i0 _ 16 16 Tryz.underlying333 hi0 hz0 hz1 hz2 rfl (by decide) v i ((l.take (16*i)).map U) rfl Hmade2.out ⟨wr.drew.heap.size,0,none⟩ 1 1 [U k0,U k1,U k2,U k3,U k4,U k5,U k6,U k7,U k8,U k9,U k10,U k11,U k12,U k13,U k14,U k15] rfl rfl Hnews.out (by simp [Value.oneCell']) (by unfold maxLen;omega) (by omega) Hkeep2.out.size ?_;intro v' w2 hown' hgrow;have g4:=(keep_grown hgrow).cell (p:=⟨b,4,none⟩) Hvb.out (Hrb2.out.cell 4);have e4:=((keep_grown hgrow).frozen (p:=⟨b,4,none⟩) Hvb.out (Hrb2.out.cell 4)).trans (Hrb2.out.frozen 4);obtain⟨g',cap',rfl,hbg',hlg'⟩:=owns_row hown' (Nat.succ_pos i);have Hown':=Lib.hid hown';have Hgrow:=Lib.hid hgrow;clear hown' hgrow)
       all_goals
        have hK:=Keep.refl (fun k=>k≠b) w2
        have hset:=hK.setCell (p:=⟨b,4,none⟩) (fun h=>absurd rfl h) (.slice (some ⟨g',0,none⟩) (i+1) cap')
        have hwords:=owns_keep Hown2.out (keep_grown Hgrow.out) (fun k h=>by rw [← (show g=k from Option.some.inj h)];exact Hvg.out)
        have happ:=owns_apart Hown'.out hwords (by decide) (g:=g) rfl
        have hwords2:=owns_keep hwords hset (fun k h=>show k≠b by have:=(Hown2.out.lt k h).1;omega)
        have hmade3:=owns_keep Hown'.out hset (fun k h (e:k=b)=>by have:=(Hown'.out.lt k h).1;omega)
        have hrow3:=(Hrb2.out.keep (keep_grown Hgrow.out) Hvb.out).store 4 (.slice (some ⟨g',0,none⟩) (i+1) cap')
        have hkp3:=((Hkeep2.out).on (keep_grown Hgrow.out) (fun k hk hl e=>by have:=(Hmade2.out.lt k e).1;omega)).trans hset
        have hap2:i+1≤n+7:=by omega
        have hnx:Hid (MadeAt b g cap n l (.string s) c1 c2 c3 w (.slice (some ⟨g,o2,none⟩) (ln-4) (cp-4)) (w2.setCell ⟨b,4,none⟩ (.slice (some ⟨g',0,none⟩) (i+1) cap'))):=by
         refine⟨i+1,o2,ln-4,cp-4,_,by omega,by omega,fun h=>by rw [ho2 (by omega)];omega,rfl,by omega,hwords2,hrow3,?_,happ,hkp3⟩
         rw [Htk.out,HK16.out,List.map_append]
         exact hmade3
        clear hK hset hwords happ hwords2 hmade3 hrow3 hkp3 Hown' Hgrow
        go_wp2
        go_roundw
        any_goals exact hnx.out
        all_goals (simp only [vlen];omega)
  · obtain rfl:ln=0:=by omega
    obtain rfl:i=n+7:=by omega
    have hposi:¬ (0:Int)<((0:Nat):Int):=by omega
    rw [List.take_of_length_le (by omega)] at hmade
    have Hf:Hid (∃ v,Row wr b 341 #[.string s,c1,c2,c3,v]∧wr.ownsRow w.heap.size 335 16 v (n+7) (l.map U)∧Keep (fun k=>k≠b) w wr):=Lib.hid ⟨v,hrb,hmade,hkeep⟩
    clear hown hrb hmade hkeep hvg
    go_wp2
    go_end0
    exact⟨rfl,by rw [Hl.out];exact Hf.out⟩
namespace Once
theorem disable (w:World):(callFunc 291 #[]).run Tryz.prog w= .ok (.value (.tuple #[])) w:=run_call_mark0 Tryz.func291 (by kernel_rfl) (by kernel_rfl) (by kernel_rfl) .disable (by kernel_rfl) w
theorem enable (w:World):(callFunc 293 #[]).run Tryz.prog w= .ok (.value (.tuple #[])) w:=run_call_mark0 Tryz.func293 (by kernel_rfl) (by kernel_rfl) (by kernel_rfl) .enable (by kernel_rfl) w
theorem acquire (a:Addr) (w:World):(callFunc 294 #[.pointer (some a)]).run Tryz.prog w= .ok (.value (.tuple #[])) w:=run_call_marked Tryz.func294 (by kernel_rfl) (by kernel_rfl) (by kernel_rfl) .acquire (by kernel_rfl) a w
theorem releaseMerge (a:Addr) (w:World):(callFunc 296 #[.pointer (some a)]).run Tryz.prog w= .ok (.value (.tuple #[])) w:=run_call_marked Tryz.func296 (by kernel_rfl) (by kernel_rfl) (by kernel_rfl) .releaseMerge (by kernel_rfl) a w
theorem store_deferred (a:Addr) (x:Value) (u:FrameMode) (w:World) (hc:w.cell? a=some x) (hz:w.frozen? a=false):
 CallsD Tryz.prog 273 #[.pointer (some a),.bool true] u w fun e u' w'=>u'=u∧(e= .returned (.tuple #[])∧w'=w.drew.setCell a (.int .u32 1)):=by
 have hc':w.drew.cell? a=some x:=by go_simp
 have hz':w.drew.frozen? a=false:=by go_simp
 have hst:=run_call_store (P:=Tryz.prog) Tryz.func284 (by kernel_rfl) (by kernel_rfl) (by kernel_rfl) (by kernel_rfl) (k:= .u32) (y:=1) hc' hz'
 go_enter_d Tryz.func273,Tryz.ntmps273
 go_wp2
 go_region_calls
 all_goals (go_end0;exact⟨rfl,rfl⟩)
theorem unlock_deferred (a:Addr) (u:FrameMode) (w:World) (hc:w.cell? a=some (.int .i32 1)) (hz:w.frozen? a=false):
 CallsD Tryz.prog 272 #[.pointer (some a)] u w fun e u' w'=>u'=u∧(e= .returned (.tuple #[])∧w'=w.setCell a (.int .i32 0)):=by
 have hd:=disable
 have he:=enable
 have hr:=releaseMerge
 have hadd:=run_call_add (P:=Tryz.prog) Tryz.func297 (by kernel_rfl) (by kernel_rfl) (by kernel_rfl) .i32 (by kernel_rfl) (y:= -1) (s:=0) hc hz (by simp [go_sem];rfl)
 have hcv:=run_convert_to_unsafe (P:=Tryz.prog) (src:=358) (dst:=294) Tryz.underlying358 Tryz.underlying294 (by kernel_rfl) hc
 go_enter_d Tryz.func272,Tryz.ntmps272
 go_wp2
 go_end0
 go_wp2
 go_end0
 exact⟨rfl,rfl⟩
theorem lock_free (a:Addr) (w:World) (hc:w.cell? a=some (.int .i32 0)) (hz:w.frozen? a=false):
 Calls Tryz.prog 271 #[.pointer (some a)] w fun e w'=>e= .returned (.tuple #[])∧w'=w.setCell a (.int .i32 1):=by
 have hd:=disable
 have he:=enable
 have ha:=acquire
 have hcas:=run_call_cas_hit (P:=Tryz.prog) Tryz.func292 (by kernel_rfl) (by kernel_rfl) (by kernel_rfl) .i32 (by kernel_rfl) (y:=1) hc hz
 have hc':(w.setCell a (.int .i32 1)).cell? a=some (.int .i32 1):=World.cell?_setCell_same w a _ hc
 have hcv:=run_convert_to_unsafe (P:=Tryz.prog) (src:=358) (dst:=294) Tryz.underlying358 Tryz.underlying294 (by kernel_rfl) hc'
 go_enter Tryz.func271,Tryz.ntmps271
 go_wp2
 first | go_end0 | (simp only [Exit.inBlock,Exit.then];refine bodyPost_ret (results_none rfl _ _ _) rfl ?_) | refine bodyPost_ret (results_none rfl _ _ _) rfl ?_
 go_wp2
 go_end0
 exact⟨rfl,rfl⟩
end Once
theorem once_slow (b n:Nat) (s:ByteArray) (hn:n=4∨n=8) (hs:s.size=4*n) (c3:Value) (w:World) (hr:Row w b 341 #[.string s,.int .u32 0,.int .i32 0,c3,.slice none 0 0]):
 Calls Tryz.prog 266 #[.pointer (some ⟨b,1,none⟩),.func (.func 274) #[.pointer (some ⟨b,0,none⟩)] #[]] w fun e w'=>e= .returned (.tuple #[])∧∃ v,Row w' b 341 #[.string s,.int .u32 1,.int .i32 0,c3,v]∧
  w'.ownsRow w.heap.size 335 16 v (n+7) ((Aes.expanded (bytesOf s)).map U)∧Keep (fun k=>k≠b) w w':=by
 have c2:=hr.cell 2
 have f2:=hr.frozen 2
 have hr1:Row (w.setCell ⟨b,2,none⟩ (.int .i32 1)) b 341 #[.string s,.int .u32 0,.int .i32 1,c3,.slice none 0 0]:=hr.store 2 _
 have hk1:Keep (fun k=>k≠b) w (w.setCell ⟨b,2,none⟩ (.int .i32 1)):=(Keep.refl _ w).setCell (fun h=>absurd rfl h) _
 have hl:=run_call_load (P:=Tryz.prog) Tryz.func270 (by kernel_rfl) (by kernel_rfl) (by kernel_rfl) .u32 (by kernel_rfl) (w:=w.setCell ⟨b,2,none⟩ (.int .i32 1)) (a:=⟨b,1,none⟩) (x:=0) (hr1.cell 1)
 have hnot:∀(x:Bool) (w:World),(Op.unary .not (.bool x)).run Tryz.prog w= .ok (.bool (!x)) w:=fun _ _=>rfl
 have hsz:(w.setCell ⟨b,2,none⟩ (.int .i32 1)).heap.size=w.heap.size:=by simp
 have Hr1:=Lib.hid hr1
 have Hb:=Lib.hid hr.lt
 have Hk1:=Lib.hid hk1
 clear hr1 hk1 hr
 go_enter_defers Tryz.func266,Tryz.ntmps266
 go_wp2_with (first | (go_at_call 271;refine(Once.lock_free ⟨b,2,none⟩ _ (by go_simp) (by go_simp)).mono ?_;rintro e w' ⟨rfl,rfl⟩) | (go_at_call 265;go_in) | (go_at_call 274;refine(expand_any b n s hn hs (.int .u32 0) (.int .i32 1) c3 _ Hr1.out).mono ?_;rintro e w2 ⟨rfl,v,hr2,ho2,hk2⟩))
 rw [hsz] at ho2
 have hr3:=(hr2.drew.store 1 (.int .u32 1)).store 2 (.int .i32 0)
 have hset:Keep (fun k=>k≠b) w2 ((w2.drew.setCell ⟨b,1,none⟩ (.int .u32 1)).setCell ⟨b,2,none⟩ (.int .i32 0)):=
  ((Keep.refl _ w2).drew.setCell (p:=⟨b,1,none⟩) (fun h=>absurd rfl h) _).setCell (p:=⟨b,2,none⟩) (fun h=>absurd rfl h) _
 have ho3:=owns_keep ho2 hset (fun k h (e:k=b)=>by have:=(ho2.lt k h).1;have:=Hb.out;omega)
 have hk3:=(Hk1.out.trans hk2).trans hset
 have d2:=(hr2.drew.store 1 (.int .u32 1)).cell 2
 have g2:=(hr2.drew.store 1 (.int .u32 1)).frozen 2
 go_wp2
 refine leaves_cons (f:=273) (args:=#[.pointer (some ⟨b,1,none⟩),.bool true]) (by simp) (by simp [go_sem]) ?_
 refine(Once.store_deferred ⟨b,1,none⟩ (.int .u32 0) .returning _ (hr2.cell 1) (hr2.frozen 1)).mono ?_
 rintro e u' w'' ⟨rfl,rfl,rfl⟩
 refine leaves_cons (f:=272) (args:=#[.pointer (some ⟨b,2,none⟩)]) (by simp [settle]) (by simp [go_sem]) ?_
 refine(Once.unlock_deferred ⟨b,2,none⟩ _ _ d2 g2).mono ?_
 rintro e u' w'' ⟨rfl,rfl,rfl⟩
 simp [Leaves,settle,results,Tryz.results266]
 exact⟨v,hr3,ho3,hk3⟩
theorem once_first (b n:Nat) (s:ByteArray) (hn:n=4∨n=8) (hs:s.size=4*n) (c3:Value) (w:World) (hr:Row w b 341 #[.string s,.int .u32 0,.int .i32 0,c3,.slice none 0 0]):
 Calls Tryz.prog 255 #[.pointer (some ⟨b,1,none⟩),.func (.func 274) #[.pointer (some ⟨b,0,none⟩)] #[]] w fun e w'=>e= .returned (.tuple #[])∧∃ v,Row w' b 341 #[.string s,.int .u32 1,.int .i32 0,c3,v]∧
  w'.ownsRow w.heap.size 335 16 v (n+7) ((Aes.expanded (bytesOf s)).map U)∧Keep (fun k=>k≠b) w w':=by
 have hl:=run_call_load (P:=Tryz.prog) Tryz.func270 (by kernel_rfl) (by kernel_rfl) (by kernel_rfl) .u32 (by kernel_rfl) (w:=w) (a:=⟨b,1,none⟩) (x:=0) (hr.cell 1)
 have hnot:∀(x:Bool) (w:World),(Op.unary .not (.bool x)).run Tryz.prog w= .ok (.bool (!x)) w:=fun _ _=>rfl
 have Hr:=Lib.hid hr
 clear hr
 go_enter Tryz.func255,Tryz.ntmps255
 go_wp2_with (first | (go_at_call 266;refine(once_slow b n s hn hs c3 _ Hr.out).mono ?_;rintro e w' ⟨rfl,h⟩) | (go_at_call 265;go_in))
 go_end0
 exact⟨rfl,h⟩
theorem once_again (b:Nat) (c0 c2 c3 c4 fv:Value) (w:World) (hr:Row w b 341 #[c0,.int .u32 1,c2,c3,c4]):
 Calls Tryz.prog 255 #[.pointer (some ⟨b,1,none⟩),fv] w fun e w'=>e= .returned (.tuple #[])∧w'=w:=by
 have hl:=run_call_load (P:=Tryz.prog) Tryz.func270 (by kernel_rfl) (by kernel_rfl) (by kernel_rfl) .u32 (by kernel_rfl) (w:=w) (a:=⟨b,1,none⟩) (x:=1) (hr.cell 1)
 have hnot:∀(x:Bool) (w:World),(Op.unary .not (.bool x)).run Tryz.prog w= .ok (.bool (!x)) w:=fun _ _=>rfl
 clear hr
 go_enter Tryz.func255,Tryz.ntmps255
 go_wp2
 go_end0
 exact⟨rfl,rfl⟩
theorem keys_first (b n:Nat) (s:ByteArray) (hn:n=4∨n=8) (hs:s.size=4*n) (c3:Value) (w:World) (hr:Row w b 341 #[.string s,.int .u32 0,.int .i32 0,c3,.slice none 0 0]):
 Calls Tryz.prog 268 #[.pointer (some ⟨b,0,none⟩)] w fun e w'=>∃ v,e= .returned v∧Row w' b 341 #[.string s,.int .u32 1,.int .i32 0,c3,v]∧
  w'.ownsRow w.heap.size 335 16 v (n+7) ((Aes.expanded (bytesOf s)).map U)∧Keep (fun k=>k≠b) w w':=by
 have hmf:∀(fn:Fn) (first cap:Array Value) (w:World),(Instr.makeFunc fn first cap).run Tryz.prog w= .ok (.func fn first cap) w:=fun _ _ _ _=>rfl
 have Hr:=Lib.hid hr
 clear hr
 go_enter Tryz.func268,Tryz.ntmps268
 go_wp2_with (go_at_call 255;refine(once_first b n s hn hs c3 _ Hr.out).mono ?_;rintro e w' ⟨rfl,v,hr2,ho2,hk2⟩;have q4:=hr2.cell 4)
 go_ret
 exact⟨v,rfl,hr2,ho2,hk2⟩
theorem keys_again (b:Nat) (c0 c2 c3 c4:Value) (w:World) (hr:Row w b 341 #[c0,.int .u32 1,c2,c3,c4]):
 Calls Tryz.prog 268 #[.pointer (some ⟨b,0,none⟩)] w fun e w'=>e= .returned c4∧w'=w:=by
 have hmf:∀(fn:Fn) (first cap:Array Value) (w:World),(Instr.makeFunc fn first cap).run Tryz.prog w= .ok (.func fn first cap) w:=fun _ _ _ _=>rfl
 have Hr:=Lib.hid hr
 have q4:=hr.cell 4
 clear hr
 go_enter Tryz.func268,Tryz.ntmps268
 go_wp2_with (go_at_call 255;refine(once_again b _ _ _ _ _ _ Hr.out).mono ?_;rintro e w' ⟨rfl,rfl⟩)
 go_ret
 exact⟨rfl,rfl⟩
end Go.Proofs.YtpnbkfboneabaaaGreat
