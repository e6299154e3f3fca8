import Derived.Test.YtpnbkfboneabaaaGreatOD
import Derived.Test.YtpnbkfboneabaaaGreatWA
import Derived.Test.YtpnbkfboneabaaaGreatRK
import Derived.Deep.QuietTactic
import Derived.BigQuiet
set_option maxRecDepth 100000
set_option maxHeartbeats 4000000
namespace Go.Proofs.YtpnbkfboneabaaaGreat
open Go.RowKit
theorem ints_one {v:Value} {w:World} (h:IntsIn v w):∃ ao len cap,v= .slice ao len cap∧len≤maxLen∧∀ i,i<len→∃ a z,ao=some a∧w.cell? (a.add i)=some (.int .i64 z)∧ -9223372036854775808≤z∧z≤9223372036854775807:=by
 rcases h with rfl | ⟨a,len,cap,Z,rfl,h1,h2,h3⟩
 · exact⟨_,_,_,rfl,Nat.zero_le _,fun i hi=>by omega⟩
 · exact⟨_,_,_,rfl,by omega,fun i hi=>⟨a,Z i,rfl,(h3 i hi).1,(h3 i hi).2.1,(h3 i hi).2.2⟩⟩
def DrAt (w:World) (i:Nat) (vo:Value) (wr:World):Prop:=
 ∃ vs:List Value,vs.length=i∧(∀ v∈vs,∃ n:Nat,v=U n)∧wr.ownsRow (w.heap.size+1) 5 1 vo i vs∧Row wr w.heap.size 23 #[.string ⟨#[]⟩,.int .i64 0]∧Below w.heap.size w wr
theorem drAt_next {w W w2:World} {i:Nat} {vo v':Value} {vs:List Value} {y:Value} (hl:vs.length=i) (hu:∀ v∈vs,∃ n:Nat,v=U n) (hy:∃ n:Nat,y=U n) (hown:W.ownsRow (w.heap.size+1) 5 1 vo i vs) (hrow:Row W w.heap.size 23 #[.string ⟨#[]⟩,.int .i64 0])
 (hB:Below w.heap.size w W) (hown':w2.ownsRow (w.heap.size+1) 5 1 v' (i+1) (vs++[y])) (hg:W.grownBy w2 vo.ownBlock):DrAt w (i+1) v' w2:=by
 have hk:=keep_grown hg
 have hne:∀ k,vo.ownBlock=some k→w.heap.size+1≤k:=fun k hk=>(hown.lt k hk).1
 refine⟨_,by simp [hl],?_,hown',hrow.keep hk (fun e=>by have:=hne _ e;omega),hB.trans (keep_below (B:=w.heap.size) hk (fun k hk e=>by have:=hne _ e;omega) hB.size)⟩
 · intro v hv
   rcases List.mem_append.1 hv with hv | hv
   · exact hu v hv
   · rw [List.mem_singleton] at hv
     rw [hv]
     exact hy
theorem list_U:∀ {vs:List Value},(∀ v∈vs,∃ n:Nat,v=U n)→∃ l:List Nat,vs=l.map U
 | [],_=>⟨[],rfl⟩
 | v::vs,h=>by
   obtain⟨n,rfl⟩:=h v List.mem_cons_self
   obtain⟨l,rfl⟩:=list_U (vs:=vs) (fun u hu=>h u (List.mem_cons_of_mem _ hu))
   exact⟨n::l,rfl⟩
theorem u8_mod (z:Int):∃ n:Nat,(Value.int .u8 (z%256))=U n:=⟨(z%256).toNat,by show Value.int .u8 (z%256)=Value.int .u8 _;rw [Int.toNat_of_nonneg (Int.emod_nonneg _ (by decide))]⟩
theorem Draws_any (v:Value) (small:Bool) (w:World) (hv:IntsIn v w):
 Calls Tryz.prog 34 #[v,.bool small] w fun e w'=>∃ s:ByteArray,s.size=2000∧e= .returned (.agg #[.string s,.int .i64 0])∧Below w.heap.size w w':=by
 obtain⟨ao,len,cap,rfl,hlen,hcell⟩:=ints_one hv
 obtain⟨i0,hi0,hz0,hz1,hz2⟩:=info_parts LawA.infoByte
 have Hcell:=Lib.hid hcell
 have hlen64:(len:Int)≤9223372036854775807:=by unfold maxLen at hlen;omega
 clear hv hcell
 go_enter Tryz.func34,Tryz.ntmps34
 go_wp2
 go_loopw [5,6,7] (fun vo vi _ wr=>∃ i:Nat,i≤2000∧vi= .int .i64 (i:Int)∧DrAt w i vo wr) (fun _ vi _ _=>2000-(intOf vi).toNat)
 case atStart=>
  exact⟨0,Nat.zero_le _,rfl,[],rfl,by simp,by simpa using World.ownsRow_nil _ _ _ 1,Row.new w _ _,(Below.refl _ w).alloc (Nat.le_refl _) _⟩
 case round=>
  obtain⟨i,hi,rfl,vs,hl,hu,hown,hrow,hB⟩:=hrel
  have Hown:=Lib.hid hown
  have Hrow:=Lib.hid hrow
  have HB:=Lib.hid hB
  have Hu:=Lib.hid hu
  have Hl:=Lib.hid hl
  clear hown hrow hB hu hl
  by_cases hlt:i<2000
  · by_cases h0:len=0
    · subst h0
      cases small
      · skip
        go_wp2_with (at_builtin;go_must (refine wpList_append_own _ rfl _ _ 42 rfl (w.heap.size+1) 5 i0 _ 1 1 Tryz.underlying42 hi0 hz0 hz1 hz2 rfl (by decide) _ _ _ rfl (Hown.out.alloc _) ⟨wr.heap.size,0,none⟩ 1 1 [.int .u8 (wrap64 (7*(i:Int)*(i:Int))%256)] rfl rfl ?a2 (by simp [Value.oneCell']) ?a3 ?a4 ?a5 ?_))
        case a2=>intro j u hu;rw [Addr.add_mid,Nat.zero_add,(Row.new wr 5 #[.int .u8 (wrap64 (7*(i:Int)*(i:Int))%256)]).cell j];simpa using hu
        case a3=>unfold maxLen;omega
        case a4=>omega
        case a5=>have:=HB.out.size;have:=Hrow.out.lt;rw [World.size_alloc];omega
        intro v' w2 hown' hgrow _
        have hnx:=Lib.hid (drAt_next (y:= .int .u8 (wrap64 (7*(i:Int)*(i:Int))%256)) Hl.out Hu.out (u8_mod _) (Hown.out.alloc _) (Hrow.out.alloc _) (HB.out.alloc HB.out.size _) hown' hgrow)
        clear hown' hgrow
        go_wp2
        go_roundw
        case rel=>exact⟨i+1,by omega,rfl,hnx.out⟩
        case measure=>simp [intOf];omega
      · by_cases h8:(i:Int)%8=0
        · skip
          go_wp2_with (at_builtin;go_must (refine wpList_append_own _ rfl _ _ 42 rfl (w.heap.size+1) 5 i0 _ 1 1 Tryz.underlying42 hi0 hz0 hz1 hz2 rfl (by decide) _ _ _ rfl (Hown.out.alloc _) ⟨wr.heap.size,0,none⟩ 1 1 [.int .u8 0] rfl rfl ?b2 (by simp [Value.oneCell']) ?b3 ?b4 ?b5 ?_))
          case b2=>intro j u hu;rw [Addr.add_mid,Nat.zero_add,(Row.new wr 5 #[.int .u8 0]).cell j];simpa using hu
          case b3=>unfold maxLen;omega
          case b4=>omega
          case b5=>have:=HB.out.size;have:=Hrow.out.lt;rw [World.size_alloc];omega
          intro v' w2 hown' hgrow _
          have hnx:=Lib.hid (drAt_next (y:= .int .u8 0) Hl.out Hu.out ⟨0,rfl⟩ (Hown.out.alloc _) (Hrow.out.alloc _) (HB.out.alloc HB.out.size _) hown' hgrow)
          clear hown' hgrow
          go_wp2
          go_roundw
          case rel=>exact⟨i+1,by omega,rfl,hnx.out⟩
          case measure=>simp [intOf];omega
        · skip
          go_wp2_with (at_builtin;go_must (refine wpList_append_own _ rfl _ _ 42 rfl (w.heap.size+1) 5 i0 _ 1 1 Tryz.underlying42 hi0 hz0 hz1 hz2 rfl (by decide) _ _ _ rfl (Hown.out.alloc _) ⟨wr.heap.size,0,none⟩ 1 1 [.int .u8 0] rfl rfl ?c2 (by simp [Value.oneCell']) ?c3 ?c4 ?c5 ?_))
          case c2=>intro j u hu;rw [Addr.add_mid,Nat.zero_add,(Row.new wr 5 #[.int .u8 0]).cell j];simpa using hu
          case c3=>unfold maxLen;omega
          case c4=>omega
          case c5=>have:=HB.out.size;have:=Hrow.out.lt;rw [World.size_alloc];omega
          intro v' w2 hown' hgrow _
          have hnx:=Lib.hid (drAt_next (y:= .int .u8 0) Hl.out Hu.out ⟨0,rfl⟩ (Hown.out.alloc _) (Hrow.out.alloc _) (HB.out.alloc HB.out.size _) hown' hgrow)
          clear hown' hgrow
          go_wp2
          go_roundw
          case rel=>exact⟨i+1,by omega,rfl,hnx.out⟩
          case measure=>simp [intOf];omega
    · have hrem:i%len<len:=Nat.mod_lt _ (by omega)
      obtain⟨a,z,rfl,hz,hz1',hz2'⟩:=Hcell.out (i%len) hrem
      have HP:=Lib.hid (fun W=>pick8_any z 256 ⟨hz1',hz2'⟩ (by decide) W)
      have hzr:=cell_below HB.out hz
      have t2:(i:Int)%(len:Int)=((i%len:Nat):Int):=by simp
      have t1:Int.tmod (i:Int) (len:Int)=((i%len:Nat):Int):=by rw [Int.tmod_eq_emod_of_nonneg (by omega),t2]
      have t3:((i%len:Nat):Int)<(len:Int):=by omega
      generalize i%len=r at*
      have h0':¬ (len:Int)=0:=by omega
      have h0'':(len:Int) > 0:=by omega
      go_wp2_with fail
      go_quiet (refine Calls.quiet_of_same (HP.out _))
      have hown2:(wr.drewN nq).ownsRow (w.heap.size+1) 5 1 _ i vs:=Hown.out
      have hrow2:Row (wr.drewN nq) w.heap.size 23 #[.string ⟨#[]⟩,.int .i64 0]:=Hrow.out
      have hB2:=Below.trans_drewN HB.out nq
      obtain⟨W,hW⟩:∃ W,wr.drewN nq=W:=⟨_,rfl⟩
      rw [hW] at hown2 hrow2 hB2
      clear Hown Hrow HB hzr hz t1 t2 t3 HP
      have Hown:=Lib.hid hown2
      have Hrow:=Lib.hid hrow2
      have HB:=Lib.hid hB2
      clear hown2 hrow2 hB2
      cases small
      · skip
        go_wp2_with (at_builtin;go_must (refine wpList_append_own _ rfl _ _ 42 rfl (w.heap.size+1) 5 i0 _ 1 1 Tryz.underlying42 hi0 hz0 hz1 hz2 rfl (by decide) _ _ _ rfl (Hown.out.alloc _) ⟨W.heap.size,0,none⟩ 1 1 [.int .u8 (wrap64 (wrap64 (7*(i:Int)*(i:Int))+wrap64 (pickOf z 256*wrap64 (1+wrap64 ((i:Int) / (len:Int)))))%256)] rfl rfl ?d2 (by simp [Value.oneCell']) ?d3 ?d4 ?d5 ?_))
        case d2=>intro j u hu;rw [Addr.add_mid,Nat.zero_add,(Row.new W 5 #[.int .u8 (wrap64 (wrap64 (7*(i:Int)*(i:Int))+wrap64 (pickOf z 256*wrap64 (1+wrap64 ((i:Int) / (len:Int)))))%256)]).cell j];simpa using hu
        case d3=>unfold maxLen;omega
        case d4=>omega
        case d5=>have:=HB.out.size;have:=Hrow.out.lt;rw [World.size_alloc];omega
        intro v' w2 hown' hgrow _
        have hnx:=Lib.hid (drAt_next (y:= .int .u8 (wrap64 (wrap64 (7*(i:Int)*(i:Int))+wrap64 (pickOf z 256*wrap64 (1+wrap64 ((i:Int) / (len:Int)))))%256)) Hl.out Hu.out (u8_mod _) (Hown.out.alloc _) (Hrow.out.alloc _) (HB.out.alloc HB.out.size _) hown' hgrow)
        clear hown' hgrow
        go_wp2
        go_roundw
        case rel=>exact⟨i+1,by omega,rfl,hnx.out⟩
        case measure=>simp [intOf];omega
      · by_cases h8:(i:Int)%8=0
        · have hrem:i / 8%len<len:=Nat.mod_lt _ (by omega)
          obtain⟨a',z',hse,hz,hz1',hz2'⟩:=Hcell.out (i / 8%len) hrem
          injection hse with hse
          subst hse
          have HP:=Lib.hid (fun W=>pick8_any z' 3 ⟨hz1',hz2'⟩ (by decide) W)
          obtain⟨m,em,lm⟩:=pick_nat z' 3 (by decide)
          change pickOf z' 3=(m:Int) at em
          rw [em] at HP
          have hzr:=cell_below HB.out hz
          have t0:(i:Int) / 8=((i / 8:Nat):Int):=by omega
          have t2:((i / 8:Nat):Int)%(len:Int)=((i / 8%len:Nat):Int):=(Int.natCast_emod _ _).symm
          have t1:Int.tmod ((i / 8:Nat):Int) (len:Int)=((i / 8%len:Nat):Int):=by rw [Int.tmod_eq_emod_of_nonneg (by omega),t2]
          have t3:((i / 8%len:Nat):Int)<(len:Int):=by omega
          generalize i / 8%len=r' at*
          generalize i / 8=q at*
          have hm256:(m:Int)%256=(m:Int):=by omega
          have hm0:(m:Int)<256:=by omega
          go_wp2_with fail
          refine(HP.out _).mono ?_
          rintro e w9 ⟨rfl,hw9⟩
          rw [hw9]
          go_wp2_with (at_builtin;go_must (refine wpList_append_own _ rfl _ _ 42 rfl (w.heap.size+1) 5 i0 _ 1 1 Tryz.underlying42 hi0 hz0 hz1 hz2 rfl (by decide) _ _ _ rfl (Hown.out.alloc _) ⟨W.heap.size,0,none⟩ 1 1 [.int .u8 (m:Int)] rfl rfl ?f2 (by simp [Value.oneCell']) ?f3 ?f4 ?f5 ?_))
          case f2=>intro j u hu;rw [Addr.add_mid,Nat.zero_add,(Row.new W 5 #[.int .u8 (m:Int)]).cell j];simpa using hu
          case f3=>unfold maxLen;omega
          case f4=>omega
          case f5=>have:=HB.out.size;have:=Hrow.out.lt;rw [World.size_alloc];omega
          intro v' w2 hown' hgrow _
          have hnx:=Lib.hid (drAt_next (y:= .int .u8 (m:Int)) Hl.out Hu.out ⟨m,rfl⟩ (Hown.out.alloc _) (Hrow.out.alloc _) (HB.out.alloc HB.out.size _) hown' hgrow)
          clear hown' hgrow
          go_wp2
          go_roundw
          case rel=>exact⟨i+1,by omega,rfl,hnx.out⟩
          case measure=>simp [intOf];omega
        · skip
          go_wp2_with (at_builtin;go_must (refine wpList_append_own _ rfl _ _ 42 rfl (w.heap.size+1) 5 i0 _ 1 1 Tryz.underlying42 hi0 hz0 hz1 hz2 rfl (by decide) _ _ _ rfl (Hown.out.alloc _) ⟨W.heap.size,0,none⟩ 1 1 [.int .u8 0] rfl rfl ?e2 (by simp [Value.oneCell']) ?e3 ?e4 ?e5 ?_))
          case e2=>intro j u hu;rw [Addr.add_mid,Nat.zero_add,(Row.new W 5 #[.int .u8 0]).cell j];simpa using hu
          case e3=>unfold maxLen;omega
          case e4=>omega
          case e5=>have:=HB.out.size;have:=Hrow.out.lt;rw [World.size_alloc];omega
          intro v' w2 hown' hgrow _
          have hnx:=Lib.hid (drAt_next (y:= .int .u8 0) Hl.out Hu.out ⟨0,rfl⟩ (Hown.out.alloc _) (Hrow.out.alloc _) (HB.out.alloc HB.out.size _) hown' hgrow)
          clear hown' hgrow
          go_wp2
          go_roundw
          case rel=>exact⟨i+1,by omega,rfl,hnx.out⟩
          case measure=>simp [intOf];omega
  · obtain rfl:i=2000:=by omega
    obtain⟨l,rfl⟩:=list_U Hu.out
    have hll:l.length=2000:=by have:=Hl.out;simpa using this
    rcases ownsRow_cases Hown.out (by decide) with ⟨_,h0,_⟩ | ⟨g,cp,rfl,_,_,_,hc⟩
    · cases h0
    · have hcv:(convert 42 9 (.slice (some ⟨g,0,none⟩) 2000 cp)).run Tryz.prog wr= .ok (.string (strOf l)) wr:=conv_string Tryz.underlying42 Tryz.underlying5 Tryz.underlying9 g 0 cp l wr (fun j hj=>by
       rw [Nat.zero_add]
       exact hc j _ (by rw [List.getElem?_map,List.getElem?_eq_getElem hj,List.getD_eq_getElem?_getD,List.getElem?_eq_getElem hj];rfl)) 2000 hll
      have c0:wr.cell? ⟨w.heap.size,0,none⟩=some (.string ⟨#[]⟩):=Hrow.out.cell 0
      have c1:wr.cell? ⟨w.heap.size,1,none⟩=some (.int .i64 0):=Hrow.out.cell 1
      have f0:=Hrow.out.frozen 0
      have f1:=Hrow.out.frozen 1
      have hs:(strOf l).size=2000:=by rw [strOf_size,hll]
      generalize strOf l=S at*
      have Hs:=Lib.hid hs
      clear hc hs
      go_wp2
      refine bodyPost_ret (results_cell_row rfl _ _ w.heap.size 23 #[.string S,.int .i64 0] (0,0) _ rfl ((Hrow.out.store 0 _).store 1 _) Tryz.underlying23 rfl (by kernel_rfl)) rfl ⟨S,Hs.out,rfl,?_⟩
      exact(HB.out.setCell (p:=⟨w.heap.size,0,none⟩) (Nat.le_refl _) _).setCell (p:=⟨w.heap.size,1,none⟩) (Nat.le_refl _) _
def FreAt (w:World) (tb:ByteArray) (p b i:Nat) (vo:Value) (wr:World):Prop:=
 wr.ownsRow (w.heap.size+2) 5 1 vo i (List.replicate i (U b))∧Row wr w.heap.size 23 #[.string tb,.int .i64 (p:Int)]∧Row wr (w.heap.size+1) 34 #[.int .i64 0,.string ⟨#[]⟩,.string ⟨#[]⟩,.int .i64 0,.slice none 0 0,.slice none 0 0,.bool false]∧Below w.heap.size w wr
theorem freAt_next {w W w2:World} {tb:ByteArray} {p b i:Nat} {vo v':Value} (h:FreAt w tb p b i vo W) (hown':w2.ownsRow (w.heap.size+2) 5 1 v' (i+1) (List.replicate i (U b)++[U b])) (hg:W.grownBy w2 vo.ownBlock):FreAt w tb p b (i+1) v' w2:=by
 obtain⟨hown,hp,hq,hB⟩:=h
 have hk:=keep_grown hg
 have hne:∀ k,vo.ownBlock=some k→w.heap.size+2≤k:=fun k hk=>(hown.lt k hk).1
 refine⟨?_,hp.keep hk (fun e=>by have:=hne _ e;omega),hq.keep hk (fun e=>by have:=hne _ e;omega),hB.trans (keep_below (B:=w.heap.size) hk (fun k hk e=>by have:=hne _ e;omega) hB.size)⟩
 rw [List.replicate_succ']
 exact hown'
theorem freAt_alloc {w W:World} {tb:ByteArray} {p b i:Nat} {vo:Value} (h:FreAt w tb p b i vo W) (o:Obj):FreAt w tb p b i vo (W.alloc o):=⟨h.1.alloc o,h.2.1.alloc o,h.2.2.1.alloc o,h.2.2.2.alloc h.2.2.2.size o⟩
theorem Fresh_any (m:Int) (b:Nat) (tb:ByteArray) (p:Nat) (h1:tb.size≤65536) (h2:p≤tb.size) (w:World):
 Calls Tryz.prog 36 #[.int .i64 m,.int .u8 (b:Int),.agg #[.string tb,.int .i64 (p:Int)]] w fun e w'=>e= .returned (.agg (Orc.vals m (strOf (List.replicate 32 b)) tb p (.slice none 0 0) (.slice none 0 0) false))∧Below w.heap.size w w':=by
 obtain⟨i0,hi0,hz0,hz1,hz2⟩:=info_parts LawA.infoByte
 have hT:=fun W=>refTapeRight_any tb p h1 h2 W
 obtain⟨p0,q0,hb0,hz⟩:=box2 w #[.string tb,.int .i64 (p:Int)] #[.int .i64 0,.string ⟨#[]⟩,.string ⟨#[]⟩,.int .i64 0,.slice none 0 0,.slice none 0 0,.bool false] 23 34
 have HT:=Lib.hid hT
 have Hst:=Lib.hid (show FreAt w tb p b 0 (.slice none 0 0) _ from⟨by simpa using World.ownsRow_nil _ _ _ 1,p0,q0,hb0⟩)
 clear hT p0 q0 hb0 hz h1 h2
 unfold Orc.vals
 obtain⟨key,hkey⟩:∃ key,strOf (List.replicate 32 b)=key:=⟨_,rfl⟩
 rw [hkey]
 go_enter Tryz.func36,Tryz.ntmps36
 go_wp2
 go_loopw [7,8] (fun vo vi wr=>∃ i:Nat,i≤32∧vi= .int .i64 (i:Int)∧FreAt w tb p b i vo wr) (fun _ vi _=>32-(intOf vi).toNat)
 case atStart=>exact⟨0,Nat.zero_le _,rfl,Hst.out⟩
 case round=>
  clear Hst
  obtain⟨i,hi,rfl,hF⟩:=hrel
  have Hown:=Lib.hid hF.1
  have Hp:=Lib.hid hF.2.1
  have Hq:=Lib.hid hF.2.2.1
  have HB:=Lib.hid hF.2.2.2
  have HF:=Lib.hid hF
  clear hF
  by_cases hlt:i<32
  · skip
    go_wp2_with (at_builtin;go_must (refine wpList_append_own _ rfl _ _ 42 rfl (w.heap.size+2) 5 i0 _ 1 1 Tryz.underlying42 hi0 hz0 hz1 hz2 rfl (by decide) _ _ _ rfl (Hown.out.alloc _) ⟨wr.heap.size,0,none⟩ 1 1 [U b] rfl rfl ?a2 (by simp [Value.oneCell']) ?a3 ?a4 ?a5 ?_))
    case a2=>intro j u hu;rw [Addr.add_mid,Nat.zero_add,(Row.new wr 5 #[U b]).cell j];simpa using hu
    case a3=>unfold maxLen;omega
    case a4=>omega
    case a5=>have:=Hq.out.lt;rw [World.size_alloc];omega
    intro v' w2 hown' hgrow _
    have hnx:=Lib.hid (freAt_next (freAt_alloc HF.out _) hown' hgrow)
    clear hown' hgrow
    go_wp2
    go_roundw
    case rel=>exact⟨i+1,by omega,rfl,hnx.out⟩
    case measure=>simp [intOf];omega
  · obtain rfl:i=32:=by omega
    rcases ownsRow_cases Hown.out (by decide) with ⟨_,h0,_⟩ | ⟨g,cp,rfl,_,_,_,hc⟩
    · cases h0
    · have c0:wr.cell? ⟨w.heap.size,0,none⟩=some (.string tb):=Hp.out.cell 0
      have c1:wr.cell? ⟨w.heap.size,1,none⟩=some (.int .i64 (p:Int)):=Hp.out.cell 1
      clear hc
      go_wp2_with fail
      refine(HT.out _).mono ?_
      rintro e w1 ⟨rfl,hb1⟩
      have hown1:=owns_below Hown.out hb1
      have hp1:=Hp.out.below hb1 Hp.out.lt
      have hq1:=Hq.out.below hb1 Hq.out.lt
      have hB1:=below_seq HB.out hb1
      have hcv:(convert 42 9 (.slice (some ⟨g,0,none⟩) 32 cp)).run Tryz.prog w1= .ok (.string (strOf (List.replicate 32 b))) w1:=conv_string Tryz.underlying42 Tryz.underlying5 Tryz.underlying9 g 0 cp (List.replicate 32 b) w1 (fun j hj=>by
       rw [Nat.zero_add]
       rcases ownsRow_cases hown1 (by decide) with ⟨_,h0,_⟩ | ⟨g',cp',he,_,_,_,hc⟩
       · cases h0
       · injection he with he _ _
         injection he with he
         injection he with he
         subst he
         have hj2:j<32:=by simpa using hj
         exact hc j _ (by rw [List.getElem?_replicate,if_pos hj2,List.getD_eq_getElem?_getD,List.getElem?_replicate,if_pos hj2];rfl)) 32 (by simp)
      clear c0 c1
      have c0:w1.cell? ⟨w.heap.size,0,none⟩=some (.string tb):=hp1.cell 0
      have c1:w1.cell? ⟨w.heap.size,1,none⟩=some (.int .i64 (p:Int)):=hp1.cell 1
      rw [hkey] at hcv
      have e0:w1.cell? ⟨w.heap.size+1,0,none⟩=some (.int .i64 0):=hq1.cell 0
      have f0:=hq1.frozen 0
      have e1:w1.cell? ⟨w.heap.size+1,1,none⟩=some (.string ⟨#[]⟩):=hq1.cell 1
      have f1:=hq1.frozen 1
      have e2:w1.cell? ⟨w.heap.size+1,2,none⟩=some (.string ⟨#[]⟩):=hq1.cell 2
      have f2:=hq1.frozen 2
      have e3:w1.cell? ⟨w.heap.size+1,3,none⟩=some (.int .i64 0):=hq1.cell 3
      have f3:=hq1.frozen 3
      have e4:w1.cell? ⟨w.heap.size+1,4,none⟩=some (.slice none 0 0):=hq1.cell 4
      have f4:=hq1.frozen 4
      have e5:w1.cell? ⟨w.heap.size+1,5,none⟩=some (.slice none 0 0):=hq1.cell 5
      have f5:=hq1.frozen 5
      have e6:w1.cell? ⟨w.heap.size+1,6,none⟩=some (.bool false):=hq1.cell 6
      have f6:=hq1.frozen 6
      clear hown1 hp1 HT Hown Hp HF HB Hq hb1
      go_wp2
      all_goals
       refine bodyPost_ret (results_cell_row rfl _ _ (w.heap.size+1) 34 #[.int .i64 m,.string key,.string tb,.int .i64 (p:Int),.slice none 0 0,.slice none 0 0,.bool false] (0,0) _ rfl (((((((hq1.store 0 _).store 1 _).store 2 _).store 3 _).store 4 _).store 5 _).store 6 _) Tryz.underlying34 rfl (by kernel_rfl)) rfl ⟨rfl,?_⟩
       exact((((((hB1.setCell (p:=⟨w.heap.size+1,0,none⟩) (Nat.le_succ _) _).setCell (p:=⟨w.heap.size+1,1,none⟩) (Nat.le_succ _) _).setCell (p:=⟨w.heap.size+1,2,none⟩) (Nat.le_succ _) _).setCell (p:=⟨w.heap.size+1,3,none⟩) (Nat.le_succ _) _).setCell (p:=⟨w.heap.size+1,4,none⟩) (Nat.le_succ _) _).setCell (p:=⟨w.heap.size+1,5,none⟩) (Nat.le_succ _) _).setCell (p:=⟨w.heap.size+1,6,none⟩) (Nat.le_succ _) _
end Go.Proofs.YtpnbkfboneabaaaGreat
