import Derived.Test.YtpnbkfboneabaaaGreatDigBK
import Derived.Test.YtpnbkfboneabaaaGreatGA
set_option maxRecDepth 100000
set_option maxHeartbeats 4000000
namespace Go.Proofs.YtpnbkfboneabaaaGreat
open Go.RowKit
theorem schedule_any (s:ByteArray) (w:World):
 Calls Tryz.prog 249 #[.string s] w fun e w'=>
  e= .returned (.func (.func 261) #[] #[.pointer (some ⟨w.heap.size,0,none⟩)])∧w'=w.alloc (.cells #[.string s] 9):=by
 have hmf:∀(fn:Fn) (first cap:Array Value) (w:World),(Instr.makeFunc fn first cap).run Tryz.prog w= .ok (.func fn first cap) w:=fun _ _ _ _=>rfl
 go_enter Tryz.func249,Tryz.ntmps249
 go_wp2
 go_ret
 exact⟨rfl,rfl⟩
namespace Sha
class Words where
 k:List Int
def K [Words]:List Int:=Words.k
def RoundIn [Sha.Words] (W:World):Prop:=∀ i,i<64→W.cell? ⟨0,i,none⟩=some (.int .u32 (K.getD i 0))
theorem RoundIn.keep [Sha.Words] {S:Nat→Prop} {W W':World} (h:RoundIn W) (hk:Keep S W W') (h0:S 0):RoundIn W':=fun i hi=>hk.cell (p:=⟨0,i,none⟩) h0 (h i hi)
theorem RoundIn.below [Sha.Words] {W W':World} (h:RoundIn W) (hb:Below W.heap.size W W'):RoundIn W':=fun i hi=>cell_below hb (h i hi)
theorem RoundIn.pos [Sha.Words] {W:World} (h:RoundIn W):0<W.heap.size:=by
 obtain⟨o,ho,_⟩:=cells_of_cell (h 0 (by decide))
 exact(Array.getElem?_eq_some_iff.1 ho).1
def tt (e f g h k x:Int):Int:=((((h+bits .xor .u32 (bits .xor .u32 (rot 6 e) (rot 11 e)) (rot 25 e))%4294967296+bits .xor .u32 g (bits .and .u32 e (bits .xor .u32 f g)))%4294967296+k)%4294967296+x)%4294967296
def uu (a b c:Int):Int:=(bits .xor .u32 (bits .xor .u32 (rot 2 a) (rot 13 a)) (rot 22 a)+bits .or .u32 (bits .and .u32 a b) (bits .and .u32 c (bits .or .u32 a b)))%4294967296
def rnd [Sha.Words] (v:List Int) (x:Nat × Int):List Int:=
 match v with
 | [a,b,c,d,e,f,g,h]=>[(tt e f g h (K.getD x.1 0) x.2+uu a b c)%4294967296,a,b,c,(d+tt e f g h (K.getD x.1 0) x.2)%4294967296,e,f,g]
 | _=>v
theorem rnd_length [Sha.Words] {v:List Int} (h:v.length=8) (x:Nat × Int):(rnd v x).length=8:=by
 match v,h with
 | [a,b,c,d,e,f,g,h],_=>rfl
theorem rnds_length [Sha.Words]:∀(xs:List (Nat × Int)) {v:List Int},v.length=8→(xs.foldl rnd v).length=8
 | [],_,h=>h
 | x::xs,_,h=>rnds_length xs (rnd_length h x)
theorem list8 {v:List Int} (h:v.length=8):∃ a b c d e f g k,v=[a,b,c,d,e,f,g,k]:=by
 match v,h with
 | [a,b,c,d,e,f,g,k],_=>exact⟨a,b,c,d,e,f,g,k,rfl⟩
end Sha
theorem round_at (p:Nat) (hp:p<64) (W:World):(Instr.indexAt 240 (.pointer (some ⟨0,0,none⟩)) (.int .i64 (p:Int))).run Tryz.prog W= .ok (.pointer (some ⟨0,p,none⟩)) W:=by
 have h:(p:Int)<64:=by omega
 go_simp
def CompAt [Sha.Words] (hb vb:Nat) (H:List Int) (w0:World) (pre:List (Nat × Int)) (W:World):Prop:=
 Row W vb 215 (Ws.vals (pre.foldl Sha.rnd H))∧Row W hb 215 (Ws.vals H)∧Sha.RoundIn W∧Keep (fun k=>k<hb+2) w0 W
theorem CompAt.keep [Sha.Words] {hb vb:Nat} {H:List Int} {w0 W W':World} {pre:List (Nat × Int)} {S:Nat→Prop} (h:CompAt hb vb H w0 pre W) (hk:Keep S W W') (hv:S vb) (hl:∀ k,k<hb+2→S k):CompAt hb vb H w0 pre W':=
 ⟨h.1.keep hk hv,h.2.1.keep hk (hl _ (by omega)),h.2.2.1.keep hk (hl 0 (by omega)),h.2.2.2.trans (hk.mono fun k hk' _=>hl k hk')⟩
theorem at8 (g p:Nat) (hp:p<8) (W:World):(Instr.indexAt 215 (.pointer (some ⟨g,0,none⟩)) (.int .i64 (p:Int))).run Tryz.prog W= .ok (.pointer (some ⟨g,p,none⟩)) W:=by
 have h:(p:Int)<8:=by omega
 go_simp
theorem Sha.words_mem {B:List Nat} {x:Nat × Int} (h:x∈Sha.words B):x.1<64:=by
 obtain⟨i,hi,rfl⟩:=List.mem_map.1 h
 simpa using hi
namespace Ws
def upTo (i:Nat) (new old:List Int):List Int:=new.take i++old.drop i
theorem upTo_zero (new old:List Int):upTo 0 new old=old:=by simp [upTo]
theorem upTo_all {i:Nat} {new old:List Int} (h:new.length≤i) (h2:old.length≤i):upTo i new old=new:=by simp [upTo,List.take_of_length_le h,List.drop_eq_nil_of_le h2]
theorem upTo_length {i:Nat} {new old:List Int} (h:new.length=old.length):(upTo i new old).length=old.length:=by simp [upTo];omega
theorem upTo_get {i j:Nat} {new old:List Int} (h:new.length=old.length) (hij:i≤j):(upTo i new old).getD j 0=old.getD j 0:=by
 simp only [upTo,List.getD_eq_getElem?_getD,List.getElem?_append,List.length_take]
 by_cases hi:j<min i new.length
 · omega
 · rw [if_neg hi,List.getElem?_drop]
   by_cases hn:i≤new.length
   · rw [show i+(j-min i new.length)=j from by omega]
   · rw [List.getElem?_eq_none (by omega),List.getElem?_eq_none (by omega)]
theorem upTo_set {i:Nat} {new old:List Int} (h:new.length=old.length) (hi:i<old.length):(upTo i new old).set i (new.getD i 0)=upTo (i+1) new old:=by
 have hn:i<new.length:=by omega
 apply List.ext_getElem
 · simp [upTo];omega
 · intro j h1 h2
   rw [List.getElem_set]
   simp only [upTo,List.getElem_append,List.length_take,List.getElem_take,List.getElem_drop,List.getD_eq_getElem?_getD,List.getElem?_eq_getElem hn,Option.getD_some]
   by_cases e:i=j
   · subst e;rw [if_pos rfl,dif_pos (by omega)]
   · rw [if_neg e]
     by_cases h3:j<i
     · rw [dif_pos (by omega),dif_pos (by omega)]
     · rw [dif_neg (by omega),dif_neg (by omega)]
       congr 1;omega
end Ws
def Sha.plus (a b:List Int):List Int:=(List.range a.length).map fun i=>(a.getD i 0+b.getD i 0)%4294967296
theorem Sha.plus_length (a b:List Int):(Sha.plus a b).length=a.length:=by simp [Sha.plus]
theorem Sha.plus_get (a b:List Int) {i:Nat} (hi:i<a.length):(Sha.plus a b).getD i 0=(a.getD i 0+b.getD i 0)%4294967296:=by simp [Sha.plus,List.getD_eq_getElem?_getD,hi]
def Sha.compress [Sha.Words] (H:List Int) (B:List Nat):List Int:=Sha.plus ((Sha.words B).foldl Sha.rnd H) H
theorem Sha.compress_length [Sha.Words] {H:List Int} (h:H.length=8) (B:List Nat):(Sha.compress H B).length=8:=by rw [Sha.compress,Sha.plus_length,Sha.rnds_length _ h]
def AddAt (_hb vb:Nat) (H V:List Int) (_w0 W1:World) (vi:Value) (wr:World):Prop:=
 ∃ i:Nat,i≤8∧vi= .int .i64 (i:Int)∧Row wr vb 215 (Ws.vals (Ws.upTo i (Sha.plus V H) V))∧Keep (fun k=>¬ k=vb) W1 wr
theorem Compress_any [Sha.Words] (H:List Int) (hH:H.length=8) (s:ByteArray) (hs:s.size=64) (w:World) (hR:Sha.RoundIn w):
 Calls Tryz.prog 239 #[.agg (Ws.vals H),.string s] w fun e w'=>e= .returned (.tuple #[.agg (Ws.vals (Sha.compress H (bytesOf s))),.int .i64 0])∧Keep (fun k=>k<w.heap.size) w w':=by
 have t1:((s.size:Int) != 64)=false:=by rw [bne_eq_false_iff_eq];omega
 have HRd:=Lib.hid hR
 have h0:=hR.pos
 clear hR
 refine(callsIn_wide (n:=9)).1 ?_
 refine callsIn_of_wp_marks Tryz.func239 rfl trivial ?_ rfl
 simp only [Tryz.ntmps239,List.size_toArray,List.length_cons,List.length_nil,Nat.reduceAdd,Nat.reduceSub,Array.replicate_succ,Array.replicate_zero,List.push_toArray,List.append_toArray,List.nil_append,List.cons_append]
 obtain⟨a0,a1,a2,a3,a4,a5,a6,a7,rfl⟩:=Sha.list8 hH
 dsimp only [Ws.vals,List.map_cons,List.map_nil]
 gi_wp2_with (refine⟨trivial,?_⟩;gi_at_call 249;fail)
 refine⟨trivial,?_⟩
 refine(callsIn_wide.2 (schedule_any s _)).mono ?_
 rintro e w2 ⟨rfl,hw2⟩
 obtain⟨hb,hhb⟩:∃ hb,w.heap.size=hb:=⟨_,rfl⟩
 have hk2:Keep (fun _=>True) w w2:=by rw [hw2];exact((((Keep.refl _ _).alloc _).alloc _).alloc _).alloc _
 have hz2:w2.heap.size=hb+4:=by rw [hw2,← hhb];simp
 have hbx:w2.cell? ⟨hb+3,0,none⟩=some (.string s):=by rw [hw2,← hhb];go_simp
 have hrh:Row w2 hb 215 (Ws.vals [a0,a1,a2,a3,a4,a5,a6,a7]):=by rw [hw2,← hhb];exact(((Row.new w _ _).alloc _).alloc _).alloc _
 have hrv:Row w2 (hb+2) 215 (Ws.vals [a0,a1,a2,a3,a4,a5,a6,a7]):=by
  rw [hw2,← hhb]
  have h:=(Row.new ((w.alloc (.cells #[.int .u32 a0,.int .u32 a1,.int .u32 a2,.int .u32 a3,.int .u32 a4,.int .u32 a5,.int .u32 a6,.int .u32 a7] 215)).alloc (.cells #[.int .u32 0,.int .u32 0,.int .u32 0,.int .u32 0,.int .u32 0,.int .u32 0,.int .u32 0,.int .u32 0] 215)) 215 #[.int .u32 a0,.int .u32 a1,.int .u32 a2,.int .u32 a3,.int .u32 a4,.int .u32 a5,.int .u32 a6,.int .u32 a7]).alloc (.cells #[.string s] 9)
  rw [World.size_alloc,World.size_alloc] at h
  exact h
 have hat:CompAt hb (hb+2) [a0,a1,a2,a3,a4,a5,a6,a7] w2 [] w2:=⟨hrv,hrh,HRd.out.keep hk2 trivial,Keep.refl _ _⟩
 rw [World.size_alloc,World.size_alloc,World.size_alloc,hhb]
 rw [hhb] at h0
 have hrz:Row w2 (hb+1) 215 #[.int .u32 0,.int .u32 0,.int .u32 0,.int .u32 0,.int .u32 0,.int .u32 0,.int .u32 0,.int .u32 0]:=by
  rw [hw2,← hhb]
  have h:=((Row.new (w.alloc (.cells #[.int .u32 a0,.int .u32 a1,.int .u32 a2,.int .u32 a3,.int .u32 a4,.int .u32 a5,.int .u32 a6,.int .u32 a7] 215)) 215 #[.int .u32 0,.int .u32 0,.int .u32 0,.int .u32 0,.int .u32 0,.int .u32 0,.int .u32 0,.int .u32 0]).alloc (.cells #[.int .u32 a0,.int .u32 a1,.int .u32 a2,.int .u32 a3,.int .u32 a4,.int .u32 a5,.int .u32 a6,.int .u32 a7] 215)).alloc (.cells #[.string s] 9)
  rw [World.size_alloc] at h
  exact h
 have Hat:=Lib.hid hat
 have Hk2:=Lib.hid hk2
 have Hrz:=Lib.hid hrz
 clear hat hrv hrh hw2 hk2 HRd hrz
 gi_wp2
 refine wp_rangeH (n:=9) (gf:=261) (lb:=#[.pointer (some ⟨hb+1+1+1,0,none⟩)]) rfl
  (enters_of Tryz.func261 (by kernel_rfl) rfl)
  (schedule1_any (hb+3) s hs (fun k=>k=hb+3∨hb+6≤k) (.inl rfl) w2 (by omega) (by omega) hbx)
  (by omega) (by omega) (fun _ _ _ _=>trivial) (fun _=>rfl) (fun k=>k=hb+2) (by omega) (CompAt hb (hb+2) [a0,a1,a2,a3,a4,a5,a6,a7] w2) (fun _ _ _=>False)
  (fun s A B hs hk=>hs.keep hk (by omega) (by omega)) (fun _ _ _ _ hs _=>hs) Hat.out ?body ?done ?stop
 case stop=>intro c pre suf W _ h;exact h.elim
 case done=>
  rintro W hat _ hz hK
  have hVl:=Sha.rnds_length (Sha.words (bytesOf s)) (v:=[a0,a1,a2,a3,a4,a5,a6,a7]) rfl
  obtain⟨V,hV⟩:∃ V,(Sha.words (bytesOf s)).foldl Sha.rnd [a0,a1,a2,a3,a4,a5,a6,a7]=V:=⟨_,rfl⟩
  unfold CompAt at hat
  rw [hV] at hat hVl
  have HV:=Lib.hid hV
  have hst:AddAt hb (hb+2) [a0,a1,a2,a3,a4,a5,a6,a7] V w W (.int .i64 0) W:=⟨0,by decide,rfl,by rw [Ws.upTo_zero];exact hat.1,Keep.refl _ _⟩
  have Hst:=Lib.hid hst
  have Hat2:=Lib.hid hat
  have hrl:=Hat.out.2.1.lt
  clear hst hat hV Hat hbx
  rw [hz2] at hK hz ⊢
  have HK:=Lib.hid hK
  clear hK
  gi_wp2
  gi_loopw [88] (fun vi wr=>AddAt hb (hb+2) [a0,a1,a2,a3,a4,a5,a6,a7] V w W vi wr) (fun vi _=>8-(intOf vi).toNat)
  case atStart=>exact Hst.out
  case round=>
   clear Hst
   obtain⟨i,hi,rfl,hrow,hk⟩:=hrel
   by_cases hlt:i<8
   · have hg:(i:Int)<8:=by omega
     have hpl:=Sha.plus_length V [a0,a1,a2,a3,a4,a5,a6,a7]
     have c1:=hrow.cell i
     rw [Ws.get _ (by rw [Ws.upTo_length hpl];omega),Ws.upTo_get hpl (Nat.le_refl _)] at c1
     have f1:=hrow.frozen i
     have c2:=(Hat2.out.2.1.keep hk (by omega)).cell i
     rw [Ws.get _ hlt] at c2
     have ea:=fun W=>at8 (hb+2) i hlt W
     have eb:=fun W=>at8 hb i hlt W
     have Hnx:Hid (AddAt hb (hb+2) [a0,a1,a2,a3,a4,a5,a6,a7] V w W (.int .i64 ((i:Int)+1)) (wr.drew.setCell ⟨hb+2,i,none⟩ (.int .u32 ((V.getD i 0+[a0,a1,a2,a3,a4,a5,a6,a7].getD i 0)%4294967296)))):=Lib.hid ⟨i+1,hlt,rfl,by
      have h:=hrow.drew.store i (.int .u32 ((V.getD i 0+[a0,a1,a2,a3,a4,a5,a6,a7].getD i 0)%4294967296))
      rw [Ws.set,← Sha.plus_get V _ (by omega),Ws.upTo_set hpl (by omega)] at h
      rw [← Sha.plus_get V _ (by omega)]
      exact h,hk.drew.setCell (p:=⟨hb+2,i,none⟩) (fun h=>absurd rfl h) _⟩
     generalize V.getD i 0=x at c1 Hnx
     generalize [a0,a1,a2,a3,a4,a5,a6,a7].getD i 0=y at c2 Hnx
     clear hrow hk hpl
     gi_wp2
     refine wpIn_wide.2 ?_
     go_still_tail 7,(by kernel_rfl)
     change wpList _ _ _ _ _ wr.drew
     go_wp2
     gi_wp2
     refine⟨Hnx.out,?_⟩
     simp [intOf]
     omega
   · obtain rfl:i=8:=by omega
     have hpl:=Sha.plus_length V [a0,a1,a2,a3,a4,a5,a6,a7]
     rw [Ws.upTo_all (by omega) (by omega)] at hrow
     have hcmp:Sha.compress [a0,a1,a2,a3,a4,a5,a6,a7] (bytesOf s)=Sha.plus V [a0,a1,a2,a3,a4,a5,a6,a7]:=by rw [Sha.compress,HV.out]
     obtain⟨r0,r1,r2,r3,r4,r5,r6,r7,hr⟩:=Sha.list8 (by rw [hpl];exact hVl:(Sha.plus V [a0,a1,a2,a3,a4,a5,a6,a7]).length=8)
     rw [hr] at hrow hcmp
     have Hcmp:=Lib.hid hcmp
     clear hr hcmp
     have hkz:Keep (fun k=>k<hb+2) w2 wr:=Hat2.out.2.2.2.trans (hk.mono fun k (hk:k<hb+2) _=>by omega)
     have hrz:=Hrz.out.keep hkz (by omega)
     have HKr:=Lib.hid (hk.heap (by omega) HK.out)
     have d0:=hrow.cell 0
     have d1:=hrow.cell 1
     have d2:=hrow.cell 2
     have d3:=hrow.cell 3
     have d4:=hrow.cell 4
     have d5:=hrow.cell 5
     have d6:=hrow.cell 6
     have d7:=hrow.cell 7
     have z0:=hrz.cell 0
     have z1:=hrz.cell 1
     have z2:=hrz.cell 2
     have z3:=hrz.cell 3
     have z4:=hrz.cell 4
     have z5:=hrz.cell 5
     have z6:=hrz.cell 6
     have z7:=hrz.cell 7
     have y0:=hrz.frozen 0
     have y1:=hrz.frozen 1
     have y2:=hrz.frozen 2
     have y3:=hrz.frozen 3
     have y4:=hrz.frozen 4
     have y5:=hrz.frozen 5
     have y6:=hrz.frozen 6
     have y7:=hrz.frozen 7
     have Hkz:=Lib.hid hkz
     have Hrz2:=Lib.hid hrz
     clear hrow hk hrz hkz
     have hrf:=((((((((Hrz2.out).store 0 (.int .u32 r0)).store 1 (.int .u32 r1)).store 2 (.int .u32 r2)).store 3 (.int .u32 r3)).store 4 (.int .u32 r4)).store 5 (.int .u32 r5)).store 6 (.int .u32 r6)).store 7 (.int .u32 r7)
     have hkf:=((((((((Keep.refl (fun k=>¬ k=hb+1) wr).setCell (p:=⟨hb+1,0,none⟩) (fun h=>absurd rfl h) (.int .u32 r0)).setCell (p:=⟨hb+1,1,none⟩) (fun h=>absurd rfl h) (.int .u32 r1)).setCell (p:=⟨hb+1,2,none⟩) (fun h=>absurd rfl h) (.int .u32 r2)).setCell (p:=⟨hb+1,3,none⟩) (fun h=>absurd rfl h) (.int .u32 r3)).setCell (p:=⟨hb+1,4,none⟩) (fun h=>absurd rfl h) (.int .u32 r4)).setCell (p:=⟨hb+1,5,none⟩) (fun h=>absurd rfl h) (.int .u32 r5)).setCell (p:=⟨hb+1,6,none⟩) (fun h=>absurd rfl h) (.int .u32 r6)).setCell (p:=⟨hb+1,7,none⟩) (fun h=>absurd rfl h) (.int .u32 r7)
     obtain⟨WF,hWF⟩:∃ WF,((((((((wr.setCell ⟨hb+1,0,none⟩ (.int .u32 r0)).setCell ⟨hb+1,1,none⟩ (.int .u32 r1)).setCell ⟨hb+1,2,none⟩ (.int .u32 r2)).setCell ⟨hb+1,3,none⟩ (.int .u32 r3)).setCell ⟨hb+1,4,none⟩ (.int .u32 r4)).setCell ⟨hb+1,5,none⟩ (.int .u32 r5)).setCell ⟨hb+1,6,none⟩ (.int .u32 r6)).setCell ⟨hb+1,7,none⟩ (.int .u32 r7))=WF:=⟨_,rfl⟩
     rw [hWF] at hrf hkf
     have Hrf:Hid (Row WF (hb+1) 215 (Ws.vals [r0,r1,r2,r3,r4,r5,r6,r7])):=Lib.hid hrf
     have Hkf:=Lib.hid hkf
     have HKf:WF.heap[hb+4]? =some (.deferred (some [])):=hkf.heap (by omega) HKr.out
     have HWF:=Lib.hid hWF
     clear hrf hkf hWF
     gi_wp2
     change bodyPostM _ _ _ _ _ _ _ ((((((((wr.setCell ⟨hb+1,0,none⟩ (.int .u32 r0)).setCell ⟨hb+1,1,none⟩ (.int .u32 r1)).setCell ⟨hb+1,2,none⟩ (.int .u32 r2)).setCell ⟨hb+1,3,none⟩ (.int .u32 r3)).setCell ⟨hb+1,4,none⟩ (.int .u32 r4)).setCell ⟨hb+1,5,none⟩ (.int .u32 r5)).setCell ⟨hb+1,6,none⟩ (.int .u32 r6)).setCell ⟨hb+1,7,none⟩ (.int .u32 r7))
     rw [HWF.out]
     refine⟨by simp,.inl ⟨_,_,rfl,run_takeDeferred HKf,?_⟩⟩
     obtain⟨WG,hWG⟩:∃ WG,WF.putObj (hb+4) (.deferred none)=WG:=⟨_,rfl⟩
     have hkg:Keep (fun k=>¬ k=hb+4) WF WG:=by rw [← hWG];exact(Keep.refl _ _).putObj (fun h=>absurd rfl h) _
     have hrg:=Hrf.out.keep hkg (by omega)
     have q0:=hrg.cell 0
     have q1:=hrg.cell 1
     have q2:=hrg.cell 2
     have q3:=hrg.cell 3
     have q4:=hrg.cell 4
     have q5:=hrg.cell 5
     have q6:=hrg.cell 6
     have q7:=hrg.cell 7
     rw [hWG]
     refine⟨.tuple #[.agg (Ws.vals [r0,r1,r2,r3,r4,r5,r6,r7]),.int .i64 0],?_,?_,?_⟩
     · simp [results,Tryz.f239,go_sem,q0,q1,q2,q3,q4,q5,q6,q7]
     · rw [Hcmp.out]
     · rw [hhb]
       exact((((Hk2.out.mono fun _ _ _=>trivial).trans (Hkz.out.mono fun k (hk:k<hb) _=>by omega)).trans (Hkf.out.mono fun k (hk:k<hb) _=>by omega)).trans (hkg.mono fun k (hk:k<hb) _=>by omega))
 case body=>
  intro lp pre x rest W hxs hz hi
  obtain⟨xi,xw⟩:=x
  have hxi:xi<64:=Sha.words_mem (x:=(xi,xw)) (by rw [hxs];simp)
  have hfold:(pre++[(xi,xw)]).foldl Sha.rnd [a0,a1,a2,a3,a4,a5,a6,a7]=Sha.rnd (pre.foldl Sha.rnd [a0,a1,a2,a3,a4,a5,a6,a7]) (xi,xw):=by rw [List.foldl_append];rfl
  have Hfold:=Lib.hid hfold
  have Hi:=Lib.hid hi
  clear hfold hi hxs hbx
  dsimp only [Sha.encs]
  gi_wp2
  repeat ((rw [Oper.semAt_eq _ _ _ (fun c h=>by cases h)];go_simp);gi_wp2)
  refine⟨Keep.refl _ _,fun W3 hk hzz=> ?_⟩
  have hi3:=Hi.out.keep hk (by omega) (by omega)
  have hVl:=Sha.rnds_length pre (v:=[a0,a1,a2,a3,a4,a5,a6,a7]) rfl
  obtain⟨V,hV⟩:∃ V,pre.foldl Sha.rnd [a0,a1,a2,a3,a4,a5,a6,a7]=V:=⟨_,rfl⟩
  unfold CompAt at hi3
  rw [hV] at hi3 hVl
  have HV:=Lib.hid hV
  clear hV Hi hk
  obtain⟨v0,v1,v2,v3,v4,v5,v6,v7,rfl⟩:=Sha.list8 hVl
  have hrow:=hi3.1
  have c0:=hrow.cell 0
  have c1:=hrow.cell 1
  have c2:=hrow.cell 2
  have c3:=hrow.cell 3
  have c4:=hrow.cell 4
  have c5:=hrow.cell 5
  have c6:=hrow.cell 6
  have c7:=hrow.cell 7
  have ck:=hi3.2.2.1 xi hxi
  obtain⟨kk,hkk⟩:∃ kk,Sha.K.getD xi 0=kk:=⟨_,rfl⟩
  rw [hkk] at ck
  have hxI:(xi:Int)<64:=by omega
  have HW3:=Lib.hid hi3
  have hkW3:Keep (fun k=>¬ k=hb+2) W3 W3:=Keep.refl _ _
  have HKK:=Lib.hid hkk
  clear hi3 hrow hkk hVl
  have k6:∀ w,Calls Tryz.prog 250 #[.int .i64 6,.int .u32 v4] w fun e w'=>e= .returned (.int .u32 (Sha.rot 6 v4))∧w'=w:=fun w=>right_any 6 (by decide) v4 w
  have k11:∀ w,Calls Tryz.prog 250 #[.int .i64 11,.int .u32 v4] w fun e w'=>e= .returned (.int .u32 (Sha.rot 11 v4))∧w'=w:=fun w=>right_any 11 (by decide) v4 w
  have k25:∀ w,Calls Tryz.prog 250 #[.int .i64 25,.int .u32 v4] w fun e w'=>e= .returned (.int .u32 (Sha.rot 25 v4))∧w'=w:=fun w=>right_any 25 (by decide) v4 w
  have k2:∀ w,Calls Tryz.prog 250 #[.int .i64 2,.int .u32 v0] w fun e w'=>e= .returned (.int .u32 (Sha.rot 2 v0))∧w'=w:=fun w=>right_any 2 (by decide) v0 w
  have k13:∀ w,Calls Tryz.prog 250 #[.int .i64 13,.int .u32 v0] w fun e w'=>e= .returned (.int .u32 (Sha.rot 13 v0))∧w'=w:=fun w=>right_any 13 (by decide) v0 w
  have k22:∀ w,Calls Tryz.prog 250 #[.int .i64 22,.int .u32 v0] w fun e w'=>e= .returned (.int .u32 (Sha.rot 22 v0))∧w'=w:=fun w=>right_any 22 (by decide) v0 w
  gi_wp2
  refine wpIn_round_still_tail 5 (by kernel_rfl) (by kernel_rfl) (by kernel_rfl) ?_
  simp only [List.take_succ_cons,List.take_zero,List.drop_succ_cons,List.drop_zero]
  repeat still_step
  refine wpStill_nil ?_
  change wpList _ _ _ _ _ (World.drew W3)
  go_wp2
  refine⟨rfl,?_⟩
  obtain⟨W4,hW4⟩:∃ W,World.drew W3=W:=⟨_,rfl⟩
  have HW4:=Lib.hid (show Row W4 (hb+2) 215 (Ws.vals [v0,v1,v2,v3,v4,v5,v6,v7])∧Row W4 hb 215 (Ws.vals [a0,a1,a2,a3,a4,a5,a6,a7])∧Sha.RoundIn W4∧Keep (fun k=>k<hb+2) w2 W4 from hW4 ▸ ⟨HW3.out.1.drew,HW3.out.2.1.drew,HW3.out.2.2.1,HW3.out.2.2.2.drew⟩)
  have hkW4:Keep (fun k=>¬ k=hb+2) W3 W4:=hW4 ▸ hkW3.drew
  rw [hW4]
  clear hW4
  have W4c5:=HW4.out.1.cell 5
  have W4c6:=HW4.out.1.cell 6
  have W4c7:=HW4.out.1.cell 7
  have ckW4:=HW4.out.2.2.1 xi hxi
  rw [HKK.out] at ckW4
  have hra:=fun W=>round_at xi hxi W
  clear c0 c1 c2 c3 c4 c5 c6 c7 ck
  gi_wp2
  refine wpIn_round_still_tail 28 (by kernel_rfl) (by kernel_rfl) (by kernel_rfl) ?_
  simp only [List.take_succ_cons,List.take_zero,List.drop_succ_cons,List.drop_zero]
  repeat still_step
  still_call (k6 _)
  repeat still_step
  still_call (k11 _)
  repeat still_step
  still_call (k25 _)
  repeat still_step
  refine wpStill_nil ?_
  change wpList _ _ _ _ _ (World.drew W4)
  go_wp2
  refine⟨rfl,?_⟩
  obtain⟨T,hT⟩:∃ T,Sha.tt v4 v5 v6 v7 kk xw=T:=⟨_,rfl⟩
  have HT:=Lib.hid hT
  first
   | rw [show IntKind.u32.wrap (IntKind.u32.wrap (IntKind.u32.wrap (IntKind.u32.wrap (v7+bits BinOp.xor IntKind.u32 (bits BinOp.xor IntKind.u32 (Sha.rot 6 v4) (Sha.rot 11 v4)) (Sha.rot 25 v4))+bits BinOp.xor IntKind.u32 v6 (bits BinOp.and IntKind.u32 v4 (bits BinOp.xor IntKind.u32 v5 v6)))+kk)+xw)=T from by rw [← hT];rfl]
   | (trace "SECOND";rw [show ((((v7+bits BinOp.xor IntKind.u32 (bits BinOp.xor IntKind.u32 (Sha.rot 6 v4) (Sha.rot 11 v4)) (Sha.rot 25 v4))%4294967296+bits BinOp.xor IntKind.u32 v6 (bits BinOp.and IntKind.u32 v4 (bits BinOp.xor IntKind.u32 v5 v6)))%4294967296+kk)%4294967296+xw)%4294967296=T from hT])
  clear hT
  obtain⟨W5,hW5⟩:∃ W,World.drew W4=W:=⟨_,rfl⟩
  have HW5:=Lib.hid (show Row W5 (hb+2) 215 (Ws.vals [v0,v1,v2,v3,v4,v5,v6,v7])∧Row W5 hb 215 (Ws.vals [a0,a1,a2,a3,a4,a5,a6,a7])∧Sha.RoundIn W5∧Keep (fun k=>k<hb+2) w2 W5 from hW5 ▸ ⟨HW4.out.1.drew,HW4.out.2.1.drew,HW4.out.2.2.1,HW4.out.2.2.2.drew⟩)
  have hkW5:Keep (fun k=>¬ k=hb+2) W3 W5:=hW5 ▸ hkW4.drew
  rw [hW5]
  clear hW5
  have W5c1:=HW5.out.1.cell 1
  have W5c2:=HW5.out.1.cell 2
  clear W4c5 W4c6 W4c7 ckW4
  gi_wp2
  refine wpIn_round_still_tail 21 (by kernel_rfl) (by kernel_rfl) (by kernel_rfl) ?_
  simp only [List.take_succ_cons,List.take_zero,List.drop_succ_cons,List.drop_zero]
  repeat still_step
  still_call (k2 _)
  repeat still_step
  still_call (k13 _)
  repeat still_step
  still_call (k22 _)
  repeat still_step
  refine wpStill_nil ?_
  change wpList _ _ _ _ _ (World.drew W5)
  go_wp2
  refine⟨rfl,?_⟩
  obtain⟨Z,hZ⟩:∃ Z,Sha.uu v0 v1 v2=Z:=⟨_,rfl⟩
  have HZ:=Lib.hid hZ
  first
   | rw [show IntKind.u32.wrap (bits .xor .u32 (bits .xor .u32 (Sha.rot 2 v0) (Sha.rot 13 v0)) (Sha.rot 22 v0)+bits .or .u32 (bits .and .u32 v0 v1) (bits .and .u32 v2 (bits .or .u32 v0 v1)))=Z from by rw [← hZ];rfl]
   | (trace "SECOND";rw [show (bits .xor .u32 (bits .xor .u32 (Sha.rot 2 v0) (Sha.rot 13 v0)) (Sha.rot 22 v0)+bits .or .u32 (bits .and .u32 v0 v1) (bits .and .u32 v2 (bits .or .u32 v0 v1)))%4294967296=Z from hZ])
  clear hZ
  obtain⟨W6,hW6⟩:∃ W,World.drew W5=W:=⟨_,rfl⟩
  have HW6:=Lib.hid (show Row W6 (hb+2) 215 (Ws.vals [v0,v1,v2,v3,v4,v5,v6,v7])∧Row W6 hb 215 (Ws.vals [a0,a1,a2,a3,a4,a5,a6,a7])∧Sha.RoundIn W6∧Keep (fun k=>k<hb+2) w2 W6 from hW6 ▸ ⟨HW5.out.1.drew,HW5.out.2.1.drew,HW5.out.2.2.1,HW5.out.2.2.2.drew⟩)
  have hkW6:Keep (fun k=>¬ k=hb+2) W3 W6:=hW6 ▸ hkW5.drew
  rw [hW6]
  clear hW6
  have hd6:=HW6.out.1.drew
  obtain⟨W7,hW7⟩:∃ W,(World.drew W6).setRow (hb+2) (Ws.vals [v0,v0,v1,v2,v3,v4,v5,v6])=W:=⟨_,rfl⟩
  have hcp:(Builtin.copy_ #[320,320] 3 #[.slice (some ⟨hb+2,1,none⟩) 7 7,.slice (some ⟨hb+2,0,none⟩) 7 8]).run Tryz.prog (World.drew W6)= .ok (goInt 7) W7:=by
   have h:=run_copy_row (P:=Tryz.prog) (World.drew W6) 320 320 3 203 (hb+2) 1 7 7 ⟨hb+2,0,none⟩ 7 8 _ _ [.int .u32 v0,.int .u32 v1,.int .u32 v2,.int .u32 v3,.int .u32 v4,.int .u32 v5,.int .u32 v6] Tryz.underlying320 (by kernel_rfl) hd6 rfl
    (fun j v hv=>by
     rw [Addr.add_mid,Nat.zero_add,hd6.cell j]
     have hj:j<7:=by have:=(List.getElem?_eq_some_iff.1 hv).1;simpa using this
     rcases (show j=0∨j=1∨j=2∨j=3∨j=4∨j=5∨j=6 by omega) with rfl | rfl | rfl | rfl | rfl | rfl | rfl <;> exact hv) (Nat.le_refl 8) (by simp [Value.oneCell'])
   rw [← hW7]
   exact h
  have hr7:Row W7 (hb+2) 215 (Ws.vals [v0,v0,v1,v2,v3,v4,v5,v6]):=by rw [← hW7];exact setRow_heap _ _ _ _ _ _ hd6
  have hk67:Keep (fun k=>¬ k=hb+2) W6 W7:=by rw [← hW7];exact⟨rfl,rfl,rfl,by simp [World.setRow],fun k hk _=>setRow_other _ _ k _ hk⟩
  have hk37:=hkW6.trans hk67
  have hw7:Hid (Row W7 hb 215 (Ws.vals [a0,a1,a2,a3,a4,a5,a6,a7])∧Sha.RoundIn W7∧Keep (fun k=>k<hb+2) w2 W7):=Lib.hid ⟨HW6.out.2.1.keep hk67 (by omega),HW6.out.2.2.1.keep hk67 (by omega),HW6.out.2.2.2.trans (hk67.mono fun k (hk:k<hb+2) _=>by omega)⟩
  have p4:=hr7.cell 4
  have g4:=hr7.frozen 4
  have hr8:=hr7.store 4 (.int .u32 ((v3+T)%4294967296))
  rw [Ws.set] at hr8
  have p0:=hr8.cell 0
  have g0:=hr8.frozen 0
  have hr9:=hr8.store 0 (.int .u32 ((T+Z)%4294967296))
  rw [Ws.set] at hr9
  have Hr9:=Lib.hid hr9
  have Hk37:=Lib.hid ((hk37.setCell (p:=⟨hb+2,4,none⟩) (fun h=>absurd rfl h) (.int .u32 ((v3+T)%4294967296))).setCell (p:=⟨hb+2,0,none⟩) (fun h=>absurd rfl h) (.int .u32 ((T+Z)%4294967296)))
  clear hW7 hd6 hr7 hr8 hr9 hk67 hk37 HW6 HW5 HW4 HW3 hkW3 hkW4 hkW5 hkW6 W5c1 W5c2 k6 k11 k25 k2 k13 k22 hra
  gi_wp2
  refine wpIn_round_still_tail 2 (by kernel_rfl) (by kernel_rfl) (by kernel_rfl) ?_
  simp only [List.take_succ_cons,List.take_zero,List.drop_succ_cons,List.drop_zero]
  repeat still_step
  refine wpStill_nil ?_
  change wpList _ _ _ _ _ (World.drew W6)
  go_wp2
  refine⟨rfl,?_⟩
  gi_wp2
  repeat ((rw [Oper.semAt_eq _ _ _ (fun c h=>by cases h)];go_simp);gi_wp2)
  have he:Sha.rnd [v0,v1,v2,v3,v4,v5,v6,v7] (xi,xw)=[(T+Z)%4294967296,v0,v1,v2,(v3+T)%4294967296,v4,v5,v6]:=by
   show [(Sha.tt v4 v5 v6 v7 (Sha.K.getD xi 0) xw+Sha.uu v0 v1 v2)%4294967296,v0,v1,v2,(v3+Sha.tt v4 v5 v6 v7 (Sha.K.getD xi 0) xw)%4294967296,v4,v5,v6]=_
   rw [HKK.out,HT.out,HZ.out]
  refine⟨Hk37.out,?_⟩
  unfold CompAt
  rw [Hfold.out,HV.out,he]
  have hkf:Keep (fun k=>¬ k=hb+2) W7 ((W7.setCell ⟨hb+2,4,none⟩ (.int .u32 ((v3+T)%4294967296))).setCell ⟨hb+2,0,none⟩ (.int .u32 ((T+Z)%4294967296))):=
   ((Keep.refl _ _).setCell (p:=⟨hb+2,4,none⟩) (fun h=>absurd rfl h) _).setCell (p:=⟨hb+2,0,none⟩) (fun h=>absurd rfl h) _
  exact⟨Hr9.out,hw7.out.1.keep hkf (by omega),hw7.out.2.1.keep hkf (by omega),hw7.out.2.2.trans (hkf.mono fun k (hk:k<hb+2) _=>by omega)⟩
end Go.Proofs.YtpnbkfboneabaaaGreat
