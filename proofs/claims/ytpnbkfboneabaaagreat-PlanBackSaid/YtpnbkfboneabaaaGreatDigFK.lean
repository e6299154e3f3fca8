import Derived.Test.YtpnbkfboneabaaaGreatDigEK
import Derived.Test.YtpnbkfboneabaaaGreatGE
import Derived.Test.YtpnbkfboneabaaaGreatGF
import Derived.Deep.RegionWith
import Derived.Deep.CutRange
set_option maxRecDepth 100000
set_option maxHeartbeats 1000000
namespace Go.Proofs.YtpnbkfboneabaaaGreat
open Go.RowKit
def OnlyQ (Q:Exit→Act→World→Prop):Exit→Act→World→Prop
 | .normal,a,w=>Q .normal a w
 | _,_,_=>False
theorem wp_only {P:Program} {c:Code} {Q:Exit→Act→World→Prop} {a:Act} {w:World} (h:c.wp P (OnlyQ Q) a w):c.wp P Q a w:=
 wp_mono h fun e a w h=>by cases e <;> first | exact h | exact h.elim
def Sha.fill (n:Nat):Nat:=(119-n)%64
def Sha.pad (rest:ByteArray):ByteArray:=rest++⟨#[128]⟩++⟨(Lib.repeatL [0] (Sha.fill rest.size)).toArray⟩
theorem OwnB.text {W:World} {base:Nat} {v:Value} {l:List Nat} (h:OwnB W base 5 v l):(convert 42 9 v).run Tryz.prog W= .ok (.string (strOf l)) W:=by
 have h':=h
 obtain⟨g,cap,cur,fz,rfl,_⟩:=h
 exact conv_string (P:=Tryz.prog) (src:=42) (dst:=9) Tryz.underlying42 Tryz.underlying5 Tryz.underlying9 g 0 cap l W (fun j hj=>by
  have h2:=h'.cells j (U (l.getD j 0)) (by simp [List.getD_eq_getElem?_getD,hj])
  rw [Addr.add_mid] at h2
  exact h2) l.length rfl
theorem repeat_length (n:Nat):(Lib.repeatL [(0:UInt8)] n).length=n:=by
 rw [Lib.repeatL_length]
 simp
theorem owned_text {W:World} {base:Nat} {v:Value} {R:List Nat} {n:Nat} (hn:R.length=n) (h:W.ownsRow base 5 1 v n (R.map U)):
 (convert 42 9 v).run Tryz.prog W= .ok (.string (strOf R)) W:=by
 subst hn
 rcases h.2 with ⟨rfl,hz⟩ | ⟨g,cap,cur,rfl,_⟩
 · obtain rfl:R=[]:=List.length_eq_zero_iff.1 hz
   exact run_convert_bytes_string W 42 9 5 _ _ _ Tryz.underlying42 Tryz.underlying5 Tryz.underlying9
 · exact conv_string (P:=Tryz.prog) (src:=42) (dst:=9) Tryz.underlying42 Tryz.underlying5 Tryz.underlying9 g 0 cap R W
    (fun j hj=>by rw [Nat.zero_add,h.cellAt j (by omega)];simp [List.getD_eq_getElem?_getD,hj]) R.length rfl
def Sha.out (R:List Int):List Nat:=R.flatMap fun x=>[(x / 16777216%256).toNat,(x / 65536%256).toNat,(x / 256%256).toNat,(x%256).toNat]
theorem Sha.out_next {l:List Int} {i:Nat} (hi:i<l.length):Sha.out (l.take (i+1))=Sha.out (l.take i)++[(l.getD i 0 / 16777216%256).toNat,(l.getD i 0 / 65536%256).toNat,(l.getD i 0 / 256%256).toNat,(l.getD i 0%256).toNat]:=by
 rw [List.take_succ_eq_append_getElem hi,Sha.out,List.flatMap_append]
 simp [Sha.out,List.getD_eq_getElem?_getD,hi]
theorem Sha.out_length (l:List Int):(Sha.out l).length=4*l.length:=by
 induction l with
 | nil=>rfl
 | cons x l ih=>
   have:Sha.out (x::l)=[(x / 16777216%256).toNat,(x / 65536%256).toNat,(x / 256%256).toNat,(x%256).toNat]++Sha.out l:=by simp [Sha.out]
   rw [this,List.length_append,ih]
   simp;omega
def OutAt (gb:Nat) (R:List Int) (w0:World) (vo vi:Value) (wr:World):Prop:=
 ∃ i:Nat,i≤8∧vi= .int .i64 (i:Int)∧wr.ownsRow gb 5 1 vo (4*i) ((Sha.out (R.take i)).map U)∧Keep (fun k=>k<gb) w0 wr
def Sha.tail (rest:ByteArray) (many:Nat):ByteArray:=strOf (bytesOf (Sha.pad rest)++(List.range 8).map fun k=>8*many / 2 ^ (56-8*k)%256)
def Sha.sum [Sha.Words] (H:List Int) (rest:ByteArray) (many:Nat):ByteArray:=strOf (Sha.out (Sha.absorb H (Sha.tail rest many)))
theorem infoWord:∃ i,Tryz.prog.info? 203=some i:=Option.isSome_iff_exists.1 (by kernel_rfl)
theorem run_index_words {P:Program} {t e:TypeId} {n:Nat} {l:List Int} {i:TypeInfo} (ht:P.underlying t=some (.array n e)) (he:P.underlying e=some (.int .u32)) (hi:P.info? e=some i) (hz:P.cellsOf e=1) (hl:l.length=n) {j:Nat} (hj:j<n) (w:World):
 (Instr.index t (.agg (Ws.vals l)) (.int .i64 (j:Int))).run P w= .ok (.int .u32 (l.getD j 0)) w:=by
 have hagg:(isAgg e).run P w= .ok false w:=by
  unfold isAgg
  rw [Sem.run_bind,run_underlying he w]
  simp
 have hg:=Ws.get l (j:=j) (by omega)
 simp only [Instr.index,asIntOf,Sem.run_bind,Sem.run_pure,Result.andThen_ok,run_underlying ht]
 rw [if_pos (by omega)]
 simp only [Sem.run_bind,run_sizeOf w hi,Result.andThen_ok,hz,Nat.mul_one,Int.toNat_natCast,part,hagg,hg]
 simp
def TailAt (hb:Nat) (L:List Nat) (many:Nat) (_w0 W1:World) (vt vs:Value) (wr:World):Prop:=
 ∃ i:Nat,i≤8∧vs= .int .i64 (56-8*(i:Int))∧OwnB wr (hb+1) 5 vt (L++(List.range i).map fun k=>(8*many) / 2 ^ (56-8*k)%256)∧Keep (fun k=>k<hb+1) W1 wr
theorem End_any [Sha.Words] (H:List Int) (hH:H.length=8) (rest:ByteArray) (many:Nat) (h1:rest.size=many%64) (h2:many≤1048576) (w:World) (hR:Sha.RoundIn w):
 Calls Tryz.prog 230 #[.agg (Sha.hash H rest many)] w fun e w'=>e= .returned (.tuple #[.string (Sha.sum H rest many),.int .i64 0])∧Keep (fun k=>k<w.heap.size) w w':=by
 have HRd:=Lib.hid hR
 have h0:=hR.pos
 clear hR
 obtain⟨a0,a1,a2,a3,a4,a5,a6,a7,rfl⟩:=Sha.list8 hH
 have hRt:=fun w=>Right_any [a0,a1,a2,a3,a4,a5,a6,a7] rfl rest many h1 (by omega) w
 dsimp only [Sha.hash,Ws.vals,List.map_cons,List.map_nil] at hRt
 have HRt:=Lib.hid hRt
 clear hRt
 refine(callsIn_wide (n:=9)).1 ?_
 refine callsIn_of_wp_marks Tryz.func230 rfl trivial ?_ rfl
 simp only [Tryz.ntmps230,List.size_toArray,List.length_cons,List.length_nil,Nat.reduceAdd,Nat.reduceSub,Array.replicate_succ,Array.replicate_zero,List.push_toArray,List.append_toArray,List.nil_append,List.cons_append]
 dsimp only [Sha.hash,Ws.vals,List.map_cons,List.map_nil]
 refine wpIn_wide.2 ?_
 go_wp2_with fail
 refine(HRt.out _).mono ?_
 rintro e w1 ⟨rfl,hb1⟩
 obtain⟨hb,hhb⟩:∃ hb,w.heap.size=hb:=⟨_,rfl⟩
 have hr1:Row w1 hb 217 #[.int .u32 a0,.int .u32 a1,.int .u32 a2,.int .u32 a3,.int .u32 a4,.int .u32 a5,.int .u32 a6,.int .u32 a7,.string rest,.int .i64 (many:Int)]:=by
  have h:=((Row.new w 217 #[.int .u32 a0,.int .u32 a1,.int .u32 a2,.int .u32 a3,.int .u32 a4,.int .u32 a5,.int .u32 a6,.int .u32 a7,.string rest,.int .i64 (many:Int)])).below hb1 (by simp only [World.size_alloc];omega)
  rwa [hhb] at h
 have c8:w1.cell? ⟨hb,8,none⟩=some (.string rest):=hr1.cell 8
 rw [hhb] at h0
 rw [hhb]
 have Hr1:=Lib.hid hr1
 have hrs:rest.size≤63:=by omega
 have hfl:Sha.fill rest.size≤63:=by unfold Sha.fill;omega
 have hfI:(119-(rest.size:Int))%64=((Sha.fill rest.size:Nat):Int):=by unfold Sha.fill;omega
 have hfT:(119-(rest.size:Int)).tmod 64=((Sha.fill rest.size:Nat):Int):=by rw [Int.tmod_eq_emod_of_nonneg (by omega)];exact hfI
 have hcv1:∀(g:Nat) (W:World),W.cell? ⟨g,0,none⟩=some (.int .u8 128)→(convert 42 9 (.slice (some ⟨g,0,none⟩) 1 1)).run Tryz.prog W= .ok (.string ⟨#[128]⟩) W:=fun g W hW=>
  conv_string (P:=Tryz.prog) (src:=42) (dst:=9) Tryz.underlying42 Tryz.underlying5 Tryz.underlying9 g 0 1 [128] W (fun j hj=>by
   obtain rfl:j=0:=by simpa using hj
   exact hW) 1 rfl
 obtain⟨Z,hZ⟩:∃ Z:ByteArray,⟨(Lib.repeatL [0] (Sha.fill rest.size)).toArray⟩=Z:=⟨_,rfl⟩
 have hZs:Z.size≤63:=by rw [← hZ];show(Lib.repeatL [0] (Sha.fill rest.size)).toArray.size≤63;rw [List.size_toArray,repeat_length];omega
 have hps:(Sha.pad rest).size≤1000:=by unfold Sha.pad;rw [hZ,ByteArray.size_append,ByteArray.size_append];have:(⟨#[128]⟩:ByteArray).size=1:=rfl;omega
 have hadd1:∀ W,(Op.stringOp .add rest ⟨#[128]⟩).run Tryz.prog W= .ok (.string (rest++⟨#[128]⟩)) W:=fun W=>run_string_add_sum W _ _ (by have:(⟨#[128]⟩:ByteArray).size=1:=rfl;omega)
 have hadd2:∀ W,(Op.stringOp .add (rest++⟨#[128]⟩) Z).run Tryz.prog W= .ok (.string (Sha.pad rest)) W:=fun W=>by
  unfold Sha.pad
  rw [hZ]
  exact run_string_add_sum W _ _ (by rw [ByteArray.size_append];have:(⟨#[128]⟩:ByteArray).size=1:=rfl;omega)
 have hcv2:∀ W,(convert 9 42 (.string (Sha.pad rest))).run Tryz.prog W= .ok (.slice (some ⟨W.heap.size,0,none⟩) (Sha.pad rest).size (grownCap W (Sha.pad rest).size 0 5)) (Lib.bytesWorld W 5 (Sha.pad rest)):=fun W=>Lib.run_convert_string_bytes W 9 42 5 (Sha.pad rest) Tryz.underlying9 Tryz.underlying42 Tryz.underlying5
 have hrp:=fun w=>Repeat_own ⟨#[0]⟩ (Sha.fill rest.size) w (by omega) (by decide)
 rw [show (⟨#[0]⟩:ByteArray).data.toList=[0] from rfl,hZ] at hrp
 have Hrp:=Lib.hid hrp
 have hw1:hb+1≤w1.heap.size:=Hr1.out.lt
 have hlt1:hb<w1.heap.size:=hw1
 have hmx:Tryz.prog.follows .mixedOrders=true:=by kernel_rfl
 generalize Sha.fill rest.size=fl at*
 generalize hPD:Sha.pad rest=PD at*
 have HPD:=Lib.hid hPD
 clear hPD
 have HH1:=Lib.hid h1
 have Hps:=Lib.hid hps
 clear hr1 h1 hZ hZs hps hrp
 go_upto_region 4 with fail
 go_cut [5] from 19 to 28 (fun v wx=>OwnB wx (hb+1) 5 v (bytesOf PD)∧Keep (fun k=>k<hb+1) w1 wx)
 case first=>
  refine wp_only ?_
  go_region_with (go_at_call 231;refine(Hrp.out _).mono ?_;rintro e w3 ⟨rfl,hb3⟩;have q8:w3.cell? ⟨hb,8,none⟩=some (.string rest):=cell_below hb3 (by first | exact c8 | exact(((Keep.refl (fun _=>True) w1).drew).alloc _).cell (p:=⟨hb,8,none⟩) trivial c8);(first | have q128:w3.cell? ⟨w1.heap.size,0,none⟩=some (.int .u8 128):=cell_below hb3 ((Row.new (World.drew w1) 5 #[.int .u8 128]).cell 0) | skip);have hk3:Keep (fun _=>True) w1 w3:=Keep.trans (by first | exact(Keep.refl _ _).drew | exact((Keep.refl _ _).drew).alloc _) (Keep.below hb3);have hl3:hb<w3.heap.size:=Nat.lt_of_lt_of_le hlt1 hk3.size)
  all_goals
   dsimp only [OnlyQ]
   go_wp2
   go_meet
   first
    | exact⟨(own_bytesWorld 5 PD (Nat.le_trans Hps.out (by decide)) w3).base (Nat.le_trans hw1 hk3.size),(hk3.trans (keep_bytesWorld _ _ _ _)).mono (fun _ _ _=>trivial)⟩
    | (have h5:=own_bytesWorld 5 PD (Nat.le_trans Hps.out (by decide)) (w3.alloc (.cells #[.int .u8 128] 5))
       rw [World.size_alloc] at h5
       exact⟨h5.base (by have:=hk3.size;omega),((hk3.alloc _).trans (keep_bytesWorld _ _ _ _)).mono (fun _ _ _=>trivial)⟩)
 case rest=>
  obtain⟨hown,hkc⟩:=hcut
  obtain⟨L,hL⟩:∃ L,bytesOf PD=L:=⟨_,rfl⟩
  have hLl:L.length≤1000:=by rw [← hL,bytesOf_length];exact Hps.out
  rw [hL] at hown
  have Hst:Hid (TailAt hb L many w1 wc u5 (.int .i64 56) wc):=Lib.hid ⟨0,by decide,rfl,by simpa using hown,Keep.refl _ _⟩
  have c9:=(Hr1.out.keep hkc (by omega)).cell 9
  obtain⟨i0,hi0,hz0,hz1,hz2'⟩:=info_parts LawA.infoByte
  have HL:=Lib.hid hL
  have Hkc:=Lib.hid hkc
  have HLl:=Lib.hid hLl
  clear hown hkc hL hcv1 hadd1 hadd2 hcv2 Hrp hmx c8 hw1 hLl
  go_wp2
  go_loopw [5,6] (fun vt vs wr=>TailAt hb L many w1 wc vt vs wr) (fun _ vs _=>(intOf vs+8).toNat)
  case atStart=>exact Hst.out
  case round=>
   clear Hst
   obtain⟨i,hi,rfl,hown,hk⟩:=hrel
   by_cases hlt:i<8
   · obtain⟨sh,hsh⟩:∃ sh:Nat,sh=56-8*i:=⟨_,rfl⟩
     have hshI:(56:Int)-8*(i:Int)=(sh:Int):=by omega
     rw [hshI]
     have hs56:(sh:Int)≤56:=by omega
     have hc9:=hk.cell (p:=⟨hb,9,none⟩) (by dsimp only;omega) c9
     obtain⟨y,hy⟩:∃ y,8*many / 2 ^ (56-8*i)%256=y:=⟨_,rfl⟩
     have hyI:8*(many:Int) / 2 ^ (56-8*i)%256=(y:Int):=by rw [← hy];push_cast;rfl
     rw [hsh] at hs56 ⊢
     have Hown:=Lib.hid (hown.keep ((Keep.refl (fun _=>True) wr).alloc (.cells #[.int .u8 (y:Int)] 5)) fun _ _=>trivial)
     have Hk:=Lib.hid hk
     have Hy:=Lib.hid hy
     have hwr:hb+1≤(wr.alloc (.cells #[.int .u8 (y:Int)] 5)).heap.size:=by rw [World.size_alloc];have:=hk.size;have:=Hkc.out.size;omega
     have Hwr:=Lib.hid hwr
     have hlen:(L++(List.range i).map fun k=>8*many / 2 ^ (56-8*k)%256).length≤1000000000:=by rw [List.length_append,List.length_map,List.length_range];have:=HLl.out;omega
     have hcy:=(Row.new wr 5 #[.int .u8 (y:Int)]).cell 0
     have Hlen:=Lib.hid hlen
     have Hcy:=Lib.hid hcy
     clear hown hk hy hwr hlen hcy hsh hshI
     go_wp2_with (at_builtin;refine wpList_append_one rfl _ _ 42 rfl (hb+1) 5 i0 Tryz.underlying42 hi0 hz0 hz1 hz2' _ _ rfl Hown.out Hwr.out Hlen.out ⟨wr.heap.size,0,none⟩ _ y rfl Hcy.out ?_)
     rintro vt2 w9 hown9 hk9
     have hk9':Keep (fun k=>k<hb+1) wr w9:=((Keep.refl _ wr).alloc _).trans (hk9.mono fun k (hk:k<hb+1) _ e=>by have:=Hown.out.block k e;omega)
     have Hnx:Hid (TailAt hb L many w1 wc vt2 (.int .i64 (56-8*((i:Int)+1))) w9):=Lib.hid ⟨i+1,hlt,by rw [Int.natCast_add];rfl,by
      have e:(List.range (i+1)).map (fun k=>8*many / 2 ^ (56-8*k)%256)=(List.range i).map (fun k=>8*many / 2 ^ (56-8*k)%256)++[y]:=by
       rw [List.range_succ,List.map_append,List.map_singleton,Hy.out]
      rw [e]
      exact hown9,Hk.out.trans hk9'⟩
     have esh:((56-8*i:Nat):Int)-8=56-8*((i:Int)+1):=by omega
     have Hesh:=Lib.hid esh
     clear hown9 hk9 hk9' esh
     go_wp2
     rw [Hesh.out]
     refine⟨Hnx.out,?_⟩
     simp [intOf]
     omega
   · obtain rfl:i=8:=by omega
     have hcvt:=hown.text
     have hroom:=hown.room
     have htl:(strOf (L++(List.range 8).map fun k=>8*many / 2 ^ (56-8*k)%256)).size≤2000:=by rw [strOf_size,List.length_append,List.length_map,List.length_range];have:=HLl.out;omega
     obtain⟨TT,hTT⟩:∃ TT,strOf (L++(List.range 8).map fun k=>8*many / 2 ^ (56-8*k)%256)=TT:=⟨_,rfl⟩
     rw [hTT] at hcvt htl
     have HTT:=Lib.hid hTT
     have Htl:=Lib.hid htl
     have hkwr:Keep (fun k=>k<hb+1) w1 wr:=Hkc.out.trans hk
     have Hkwr:=Lib.hid hkwr
     clear hown hk hTT htl hkwr c9 hi hlt
     have hneg:(56:Int)-8*((8:Nat):Int)= -8:=by omega
     rw [hneg]
     go_wp2_with fail
     refine(digBlocks_any TT _).mono ?_
     rintro e w2 ⟨rfl,hw2⟩
     obtain⟨bs,hbs⟩:∃ bs,wr.heap.size=bs:=⟨_,rfl⟩
     have hk52:Keep (fun _=>True) wr w2:=by rw [hw2];exact(Keep.refl _ _).alloc _
     have hz2:w2.heap.size=bs+1:=by rw [hw2,← hbs];simp
     have hbx:w2.cell? ⟨bs,0,none⟩=some (.string TT):=by rw [hw2,← hbs];go_simp
     have hfx:w2.frozen? ⟨bs,0,none⟩=false:=by rw [hw2,← hbs];go_simp
     have hz5:hb+2≤bs:=by omega
     have hk12:Keep (fun k=>k<hb+1) w1 w2:=Hkwr.out.trans (hk52.mono fun _ _ _=>trivial)
     have hk01:Keep (fun _=>True) w w1:=((Keep.refl _ w).alloc _).trans ((Keep.below hb1).mono fun _ _ _=>trivial)
     have hk02:Keep (fun k=>k<hb+1) w w2:=(hk01.mono fun _ _ _=>trivial).trans hk12
     have hat:AbsAt hb [a0,a1,a2,a3,a4,a5,a6,a7] rest (many:Int) w2 [] w2:=⟨Hr1.out.keep hk12 (by omega),HRd.out.keep hk02 (by omega),Keep.refl _ _⟩
     have Hat:=Lib.hid hat
     have Hk02:=Lib.hid hk02
     rw [hbs]
     clear hat hk02 hk01 hk12 hk52 hw2 hb1 Hr1 HRd HRt Hkwr Hkc hcvt
     go_wp2
     refine(wpIn_wide (n:=9)).1 ?_
     refine wp_rangeF (n:=9) (gf:=248) (lb:=#[.pointer (some ⟨bs,0,none⟩)]) rfl
      (enters_of Tryz.func248 (by kernel_rfl) rfl)
      (digBlocks1_any bs TT (by have:=Htl.out;omega) (fun k=>k=bs) rfl w2 hbx hfx)
      (by omega) (by omega) (fun _ _ _ _=>trivial) (fun _=>rfl) (fun k=>k=hb) (by omega) (AbsAt hb [a0,a1,a2,a3,a4,a5,a6,a7] rest (many:Int) w2) (fun _ _ _=>False)
      (fun s A B hs hk=>hs.keep h0 hk (by omega)) (fun _ _ _ _ hs _=>hs) Hat.out ?body ?done ?stop
     case stop=>intro c pre suf W _ h;exact h.elim
     case done=>
      rintro W hat _ hz hK
      have hVl:=Sha.absorb_length (H:=[a0,a1,a2,a3,a4,a5,a6,a7]) rfl TT
      obtain⟨V,hV⟩:∃ V,Sha.absorb [a0,a1,a2,a3,a4,a5,a6,a7] TT=V:=⟨_,rfl⟩
      unfold AbsAt at hat
      rw [show (Sha.chunks TT).foldl (fun h b=>Sha.compress h (bytesOf b)) [a0,a1,a2,a3,a4,a5,a6,a7]=V from hV] at hat
      rw [hV] at hVl
      have HV:=Lib.hid hV
      clear hV
      obtain⟨r0,r1,r2,r3,r4,r5,r6,r7,rfl⟩:=Sha.list8 hVl
      have hrow:Row W hb 217 #[.int .u32 r0,.int .u32 r1,.int .u32 r2,.int .u32 r3,.int .u32 r4,.int .u32 r5,.int .u32 r6,.int .u32 r7,.string rest,.int .i64 (many:Int)]:=hat.1
      have hlW:=hrow.lt
      have hmk:=run_make (P:=Tryz.prog) W 42 5 i0 _ Tryz.underlying42 hi0 hz0 .i64 .i64 (0:Int) (32:Int) (by omega) (by omega) (by rw [hz2'];omega) (by omega)
      have c0:=hrow.cell 0
      have c1:=hrow.cell 1
      have c2:=hrow.cell 2
      have c3:=hrow.cell 3
      have c4:=hrow.cell 4
      have c5:=hrow.cell 5
      have c6:=hrow.cell 6
      have c7:=hrow.cell 7
      rw [hz2] at hK hz ⊢
      have HK:=Lib.hid hK
      have Hat2:=Lib.hid hat
      have Hrow:=Lib.hid hrow
      clear hat hrow hK Hat
      have hmc:madeCells (Value.int IntKind.u8 0).cells (Int.toNat 32*i0.size)=madeCells #[Value.int IntKind.u8 0] 32:=by rw [hz1];rfl
      rw [hmc] at hmk
      have hms:(madeCells #[Value.int IntKind.u8 0] 32).size=32:=by rw [size_madeCells]
      have hst:OutAt W.heap.size [r0,r1,r2,r3,r4,r5,r6,r7] W (.slice (some ⟨W.heap.size,0,none⟩) 0 32) (.int .i64 0) (W.alloc (.cells (madeCells #[Value.int IntKind.u8 0] 32) 5)):=
       ⟨0,by decide,rfl,⟨rfl,.inr ⟨W.heap.size,32,_,rfl,Nat.le_refl _,World.alloc_heap_new _ _,by decide,by decide,hms,rfl⟩⟩,(Keep.refl _ _).alloc _⟩
      have Hst:=Lib.hid hst
      clear hst hms hmc
      go_wp2
      go_loopw [8,56] (fun vo vi wr=>OutAt W.heap.size [r0,r1,r2,r3,r4,r5,r6,r7] W vo vi wr) (fun _ vi _=>8-(intOf vi).toNat)
      case atStart=>exact Hst.out
      case round=>
       clear Hst
       obtain⟨i,hi,rfl,hown,hkw⟩:=hrel
       by_cases hlt:i<8
       · have hg8:(i:Int)<8:=by omega
         have hix:=fun W=>run_index_words (P:=Tryz.prog) (e:=203) (l:=[r0,r1,r2,r3,r4,r5,r6,r7]) Tryz.underlying215 Tryz.underlying203 infoWord.choose_spec (by kernel_rfl) rfl hlt W
         simp only [Ws.vals,List.map_cons,List.map_nil] at hix
         have ho:=Sha.out_next (l:=[r0,r1,r2,r3,r4,r5,r6,r7]) hlt
         obtain⟨x,hx⟩:∃ x,[r0,r1,r2,r3,r4,r5,r6,r7].getD i 0=x:=⟨_,rfl⟩
         rw [hx] at hix ho
         obtain⟨y0,hy0⟩:∃ y:Nat,x / 16777216%256=(y:Int):=⟨(x / 16777216%256).toNat,by omega⟩
         obtain⟨y1,hy1⟩:∃ y:Nat,x / 65536%256=(y:Int):=⟨(x / 65536%256).toNat,by omega⟩
         obtain⟨y2,hy2⟩:∃ y:Nat,x / 256%256=(y:Int):=⟨(x / 256%256).toNat,by omega⟩
         obtain⟨y3,hy3⟩:∃ y:Nat,x%256=(y:Int):=⟨(x%256).toNat,by omega⟩
         rw [hy0,hy1,hy2,hy3] at ho
         have Ho:=Lib.hid ho
         have Hown:=Lib.hid (owns_below hown ((Below.refl _ wr).alloc (Nat.le_refl _) (.cells #[U y0,U y1,U y2,U y3] 5)))
         have hrn:=Row.new wr 5 #[U y0,U y1,U y2,U y3]
         have Hrn:=Lib.hid hrn
         have Hkw:=Lib.hid hkw
         have hszr:W.heap.size≤(wr.alloc (.cells #[U y0,U y1,U y2,U y3] 5)).heap.size:=by rw [World.size_alloc];have:=hkw.size;omega
         have Hszr:=Lib.hid hszr
         clear hown ho hx hrn hkw hszr
         go_wp2_with (at_builtin;refine wpList_append_own _ rfl _ _ 42 rfl W.heap.size 5 i0 _ 1 1 Tryz.underlying42 hi0 hz0 hz1 hz2' rfl (by decide) _ (4*i) _ rfl Hown.out ⟨wr.heap.size,0,none⟩ 4 4 [U y0,U y1,U y2,U y3] rfl rfl (fun j u hu=>by rw [Addr.add_mid,Nat.zero_add,Hrn.out.cell j];simpa using hu) (by simp [Value.oneCell']) (by unfold maxLen;omega) (by omega) Hszr.out ?_)
         rintro v9 w9 hown9 hg9 _
         have hk9:Keep (fun k=>k<W.heap.size) wr w9:=((Keep.refl _ wr).alloc _).trans ((keep_grown hg9).mono fun k (hk:k<W.heap.size) _ e=>by
          rcases Hown.out.2 with ⟨rfl,_⟩ | ⟨g,cap,cur,rfl,hbg,_⟩
          · cases e
          · simp [Value.ownBlock] at e
            omega)
         have hnx:OutAt W.heap.size [r0,r1,r2,r3,r4,r5,r6,r7] W v9 (.int .i64 ((i:Int)+1)) w9:=⟨i+1,hlt,by rw [Int.natCast_add];rfl,by
          rw [Ho.out,List.map_append,show 4*(i+1)=4*i+4 by omega]
          simpa using hown9,Hkw.out.trans hk9⟩
         have Hnx:=Lib.hid hnx
         clear hown9 hg9 hk9 hnx
         go_wp2
         refine⟨Hnx.out,?_⟩
         simp [intOf]
         omega
       · obtain rfl:i=8:=by omega
         have hR32:(Sha.out [r0,r1,r2,r3,r4,r5,r6,r7]).length=32:=by rw [Sha.out_length];rfl
         have htk:[r0,r1,r2,r3,r4,r5,r6,r7].take 8=[r0,r1,r2,r3,r4,r5,r6,r7]:=rfl
         rw [htk] at hown
         obtain⟨R,hR⟩:∃ R,Sha.out [r0,r1,r2,r3,r4,r5,r6,r7]=R:=⟨_,rfl⟩
         rw [hR] at hown hR32
         have hcv:=owned_text hR32 hown
         have HR:=Lib.hid hR
         have Hkw:=Lib.hid hkw
         have HKf:wr.heap[bs+1]? =some (.deferred (some [])):=hkw.heap (by omega) HK.out
         clear hown hR hkw htk
         go_wp2
         refine⟨by simp,.inl ⟨_,_,rfl,run_takeDeferred HKf,?_⟩⟩
         obtain⟨WG,hWG⟩:∃ WG,wr.putObj (bs+1) (.deferred none)=WG:=⟨_,rfl⟩
         have hkg:Keep (fun k=>¬ k=bs+1) wr WG:=by rw [← hWG];exact(Keep.refl _ _).putObj (fun h=>absurd rfl h) _
         rw [hWG]
         refine⟨.tuple #[.string (strOf R),.int .i64 0],?_,?_,?_⟩
         · simp [results,Tryz.f230,go_sem]
         · unfold Sha.sum Sha.tail
           rw [HPD.out,HL.out,HTT.out,HV.out,HR.out]
         · rw [hhb]
           exact(((Hk02.out.mono fun k (hk:k<hb) _=>by omega).trans (Hat2.out.2.2.mono fun k (hk:k<hb) _=>⟨by omega,by omega⟩)).trans (Hkw.out.mono fun k (hk:k<hb) _=>by omega)).trans (hkg.mono fun k (hk:k<hb) _=>by omega)
     case body=>
      intro lp pre x rest' W hxs2 hz hi
      have hx64:x.size=64:=Sha.chunks_size (s:=TT) (by rw [hxs2];simp)
      have hfold:(pre++[x]).foldl (fun h b=>Sha.compress h (bytesOf b)) [a0,a1,a2,a3,a4,a5,a6,a7]=Sha.compress (pre.foldl (fun h b=>Sha.compress h (bytesOf b)) [a0,a1,a2,a3,a4,a5,a6,a7]) (bytesOf x):=by rw [List.foldl_append];rfl
      have Hfold:=Lib.hid hfold
      have Hi:=Lib.hid hi
      clear hfold hi hxs2 hbx hfx
      dsimp only [Sha.encb]
      gi_wp2
      repeat ((rw [Oper.semAt_eq _ _ _ (fun c h=>by cases h)];go_simp);gi_wp2)
      refine⟨Keep.refl _ _,fun W3 hk hzz=> ?_⟩
      have hi3:=Hi.out.keep h0 hk (by omega)
      have hVl:=Sha.absorbs_length pre (H:=[a0,a1,a2,a3,a4,a5,a6,a7]) rfl
      obtain⟨V,hV⟩:∃ V,pre.foldl (fun h b=>Sha.compress h (bytesOf b)) [a0,a1,a2,a3,a4,a5,a6,a7]=V:=⟨_,rfl⟩
      unfold AbsAt at hi3
      rw [hV] at hi3 hVl
      have HV:=Lib.hid hV
      clear hV Hi hk
      obtain⟨v0,v1,v2,v3,v4,v5,v6,v7,rfl⟩:=Sha.list8 hVl
      have hrow:Row W3 hb 217 #[.int .u32 v0,.int .u32 v1,.int .u32 v2,.int .u32 v3,.int .u32 v4,.int .u32 v5,.int .u32 v6,.int .u32 v7,.string rest,.int .i64 (many:Int)]:=hi3.1
      have c0:=hrow.cell 0
      have c1:=hrow.cell 1
      have c2:=hrow.cell 2
      have c3:=hrow.cell 3
      have c4:=hrow.cell 4
      have c5:=hrow.cell 5
      have c6:=hrow.cell 6
      have c7:=hrow.cell 7
      have hcc:=Compress_any [v0,v1,v2,v3,v4,v5,v6,v7] rfl x hx64 W3 hi3.2.1
      have hrl:=Sha.compress_length (H:=[v0,v1,v2,v3,v4,v5,v6,v7]) rfl (bytesOf x)
      obtain⟨R,hRR⟩:∃ R,Sha.compress [v0,v1,v2,v3,v4,v5,v6,v7] (bytesOf x)=R:=⟨_,rfl⟩
      rw [hRR] at hcc hrl
      obtain⟨r0,r1,r2,r3,r4,r5,r6,r7,rfl⟩:=Sha.list8 hrl
      try dsimp only [Ws.vals,List.map_cons,List.map_nil] at hcc
      have Hi3:=Lib.hid hi3
      have Hcc:=Lib.hid hcc
      have HRR:=Lib.hid hRR
      have Hrow:=Lib.hid hrow
      clear hi3 hcc hRR hrow hVl hrl
      gi_wp2
      repeat ((rw [Oper.semAt_eq _ _ _ (fun c h=>by cases h)];go_simp);gi_wp2)
      refine⟨trivial,?_⟩
      refine CallsIn.inRound lp ((callsIn_wide.2 Hcc.out).mono ?_)
      rintro e w6 ⟨rfl,hk6⟩
      have hr6:=Hrow.out.keep hk6 Hrow.out.lt
      have dc0:=hr6.cell 0
      have df0:=hr6.frozen 0
      have dc1:=hr6.cell 1
      have df1:=hr6.frozen 1
      have dc2:=hr6.cell 2
      have df2:=hr6.frozen 2
      have dc3:=hr6.cell 3
      have df3:=hr6.frozen 3
      have dc4:=hr6.cell 4
      have df4:=hr6.frozen 4
      have dc5:=hr6.cell 5
      have df5:=hr6.frozen 5
      have dc6:=hr6.cell 6
      have df6:=hr6.frozen 6
      have dc7:=hr6.cell 7
      have df7:=hr6.frozen 7
      have u0:Row (w6.setCell ⟨hb,0,none⟩ (.int .u32 r0)) (hb) 217 #[.int .u32 r0,.int .u32 v1,.int .u32 v2,.int .u32 v3,.int .u32 v4,.int .u32 v5,.int .u32 v6,.int .u32 v7,.string rest,.int .i64 (many:Int)]:=(hr6).store 0 _
      have u1:Row ((w6.setCell ⟨hb,0,none⟩ (.int .u32 r0)).setCell ⟨hb,1,none⟩ (.int .u32 r1)) (hb) 217 #[.int .u32 r0,.int .u32 r1,.int .u32 v2,.int .u32 v3,.int .u32 v4,.int .u32 v5,.int .u32 v6,.int .u32 v7,.string rest,.int .i64 (many:Int)]:=(u0).store 1 _
      have u2:Row (((w6.setCell ⟨hb,0,none⟩ (.int .u32 r0)).setCell ⟨hb,1,none⟩ (.int .u32 r1)).setCell ⟨hb,2,none⟩ (.int .u32 r2)) (hb) 217 #[.int .u32 r0,.int .u32 r1,.int .u32 r2,.int .u32 v3,.int .u32 v4,.int .u32 v5,.int .u32 v6,.int .u32 v7,.string rest,.int .i64 (many:Int)]:=(u1).store 2 _
      have u3:Row ((((w6.setCell ⟨hb,0,none⟩ (.int .u32 r0)).setCell ⟨hb,1,none⟩ (.int .u32 r1)).setCell ⟨hb,2,none⟩ (.int .u32 r2)).setCell ⟨hb,3,none⟩ (.int .u32 r3)) (hb) 217 #[.int .u32 r0,.int .u32 r1,.int .u32 r2,.int .u32 r3,.int .u32 v4,.int .u32 v5,.int .u32 v6,.int .u32 v7,.string rest,.int .i64 (many:Int)]:=(u2).store 3 _
      have u4:Row (((((w6.setCell ⟨hb,0,none⟩ (.int .u32 r0)).setCell ⟨hb,1,none⟩ (.int .u32 r1)).setCell ⟨hb,2,none⟩ (.int .u32 r2)).setCell ⟨hb,3,none⟩ (.int .u32 r3)).setCell ⟨hb,4,none⟩ (.int .u32 r4)) (hb) 217 #[.int .u32 r0,.int .u32 r1,.int .u32 r2,.int .u32 r3,.int .u32 r4,.int .u32 v5,.int .u32 v6,.int .u32 v7,.string rest,.int .i64 (many:Int)]:=(u3).store 4 _
      have u5:Row ((((((w6.setCell ⟨hb,0,none⟩ (.int .u32 r0)).setCell ⟨hb,1,none⟩ (.int .u32 r1)).setCell ⟨hb,2,none⟩ (.int .u32 r2)).setCell ⟨hb,3,none⟩ (.int .u32 r3)).setCell ⟨hb,4,none⟩ (.int .u32 r4)).setCell ⟨hb,5,none⟩ (.int .u32 r5)) (hb) 217 #[.int .u32 r0,.int .u32 r1,.int .u32 r2,.int .u32 r3,.int .u32 r4,.int .u32 r5,.int .u32 v6,.int .u32 v7,.string rest,.int .i64 (many:Int)]:=(u4).store 5 _
      have u6:Row (((((((w6.setCell ⟨hb,0,none⟩ (.int .u32 r0)).setCell ⟨hb,1,none⟩ (.int .u32 r1)).setCell ⟨hb,2,none⟩ (.int .u32 r2)).setCell ⟨hb,3,none⟩ (.int .u32 r3)).setCell ⟨hb,4,none⟩ (.int .u32 r4)).setCell ⟨hb,5,none⟩ (.int .u32 r5)).setCell ⟨hb,6,none⟩ (.int .u32 r6)) (hb) 217 #[.int .u32 r0,.int .u32 r1,.int .u32 r2,.int .u32 r3,.int .u32 r4,.int .u32 r5,.int .u32 r6,.int .u32 v7,.string rest,.int .i64 (many:Int)]:=(u5).store 6 _
      have u7:Row ((((((((w6.setCell ⟨hb,0,none⟩ (.int .u32 r0)).setCell ⟨hb,1,none⟩ (.int .u32 r1)).setCell ⟨hb,2,none⟩ (.int .u32 r2)).setCell ⟨hb,3,none⟩ (.int .u32 r3)).setCell ⟨hb,4,none⟩ (.int .u32 r4)).setCell ⟨hb,5,none⟩ (.int .u32 r5)).setCell ⟨hb,6,none⟩ (.int .u32 r6)).setCell ⟨hb,7,none⟩ (.int .u32 r7)) (hb) 217 #[.int .u32 r0,.int .u32 r1,.int .u32 r2,.int .u32 r3,.int .u32 r4,.int .u32 r5,.int .u32 r6,.int .u32 r7,.string rest,.int .i64 (many:Int)]:=(u6).store 7 _
      have hkf:=((((((((Keep.refl (fun k=>¬ k=hb) w6).setCell (p:=⟨hb,0,none⟩) (fun h=>absurd rfl h) (.int .u32 r0)).setCell (p:=⟨hb,1,none⟩) (fun h=>absurd rfl h) (.int .u32 r1)).setCell (p:=⟨hb,2,none⟩) (fun h=>absurd rfl h) (.int .u32 r2)).setCell (p:=⟨hb,3,none⟩) (fun h=>absurd rfl h) (.int .u32 r3)).setCell (p:=⟨hb,4,none⟩) (fun h=>absurd rfl h) (.int .u32 r4)).setCell (p:=⟨hb,5,none⟩) (fun h=>absurd rfl h) (.int .u32 r5)).setCell (p:=⟨hb,6,none⟩) (fun h=>absurd rfl h) (.int .u32 r6)).setCell (p:=⟨hb,7,none⟩) (fun h=>absurd rfl h) (.int .u32 r7)
      have Hrf:=Lib.hid u7
      have Hkf:=Lib.hid hkf
      have Hk6:=Lib.hid hk6
      clear hkf hk6 hr6 u0 u1 u2 u3 u4 u5 u6 u7 c0 c1 c2 c3 c4 c5 c6 c7
      gi_wp2
      repeat ((rw [Oper.semAt_eq _ _ _ (fun c h=>by cases h)];go_simp);gi_wp2)
      have hlt3:=Hrow.out.lt
      have hall:Keep (fun k=>¬ k=hb∧k<W3.heap.size) W3 ((((((((w6.setCell ⟨hb,0,none⟩ (.int .u32 r0)).setCell ⟨hb,1,none⟩ (.int .u32 r1)).setCell ⟨hb,2,none⟩ (.int .u32 r2)).setCell ⟨hb,3,none⟩ (.int .u32 r3)).setCell ⟨hb,4,none⟩ (.int .u32 r4)).setCell ⟨hb,5,none⟩ (.int .u32 r5)).setCell ⟨hb,6,none⟩ (.int .u32 r6)).setCell ⟨hb,7,none⟩ (.int .u32 r7)):=(Hk6.out.mono fun k hk _=>hk.2).trans (Hkf.out.mono fun k hk _=>hk.1)
      refine⟨⟨hall.os,hall.tape,hall.output,hall.size,fun k hk hl=>hall.block k ⟨hk,hl⟩ hl⟩,?_⟩
      unfold AbsAt
      rw [Hfold.out,HV.out,HRR.out]
      refine⟨Hrf.out,Hi3.out.2.1.keep hall ⟨by omega,by omega⟩,Hi3.out.2.2.trans (hall.mono fun k (hk:k<hb+2∧k≠hb) hl=>⟨hk.2,hl⟩)⟩
end Go.Proofs.YtpnbkfboneabaaaGreat
