import Derived.Test.YtpnbkfboneabaaaGreatDigDK
set_option maxRecDepth 100000
set_option maxHeartbeats 1500000
namespace Go.Proofs.YtpnbkfboneabaaaGreat
open Go.RowKit
def Sha.absorb [Sha.Words] (H:List Int) (s:ByteArray):List Int:=(Sha.chunks s).foldl (fun h b=>Sha.compress h (bytesOf b)) H
theorem Sha.absorbs_length [Sha.Words]:∀(l:List ByteArray) {H:List Int},H.length=8→(l.foldl (fun h b=>Sha.compress h (bytesOf b)) H).length=8
 | [],_,h=>h
 | x::l,_,h=>Sha.absorbs_length l (Sha.compress_length h (bytesOf x))
theorem Sha.absorb_length [Sha.Words] {H:List Int} (h:H.length=8) (s:ByteArray):(Sha.absorb H s).length=8:=Sha.absorbs_length _ h
def Sha.left (s:ByteArray):ByteArray:=s.extract (s.size-s.size%64) s.size
def AbsAt [Sha.Words] (hb:Nat) (H:List Int) (rest:ByteArray) (many:Int) (w0:World) (pre:List ByteArray) (W:World):Prop:=
 Row W hb 217 (Ws.vals (pre.foldl (fun h b=>Sha.compress h (bytesOf b)) H)++#[.string rest,.int .i64 many])∧Sha.RoundIn W∧Keep (fun k=>k<hb+2∧k≠hb) w0 W
theorem AbsAt.keep [Sha.Words] {hb:Nat} {H:List Int} {rest:ByteArray} {many:Int} {w0 W W':World} {pre:List ByteArray} {S:Nat→Prop} (hh:0<hb) (h:AbsAt hb H rest many w0 pre W) (hk:Keep S W W') (hl:∀ k,k<hb+2→S k):AbsAt hb H rest many w0 pre W':=
 ⟨h.1.keep hk (hl _ (by omega)),h.2.1.keep hk (hl 0 (by omega)),h.2.2.trans (hk.mono fun k hk' _=>hl k hk'.1)⟩
theorem Add_any [Sha.Words] (H:List Int) (hH:H.length=8) (rest:ByteArray) (many:Nat) (h1:rest.size=many%64) (s:ByteArray) (h2:many+s.size≤1048576) (w:World) (hR:Sha.RoundIn w):
 Calls Tryz.prog 228 #[.agg (Sha.hash H rest many),.string s] w fun e w'=>e= .returned (.tuple #[.agg (Sha.hash (Sha.absorb H (rest++s)) (Sha.left (rest++s)) (many+s.size)),.int .i64 0])∧Keep (fun k=>k<w.heap.size) w w':=by
 have HRd:=Lib.hid hR
 have h0:=hR.pos
 clear hR
 obtain⟨a0,a1,a2,a3,a4,a5,a6,a7,rfl⟩:=Sha.list8 hH
 have hRt:=fun w=>Right_any [a0,a1,a2,a3,a4,a5,a6,a7] rfl rest many h1 (by omega) w
 dsimp only [Sha.hash,Ws.vals,List.map_cons,List.map_nil] at hRt
 have HRt:=Lib.hid hRt
 have hcat:∀ W,(Op.stringOp .add rest s).run Tryz.prog W= .ok (.string (rest++s)) W:=fun W=>run_string_add_sum W _ _ (by omega)
 have hxs:(rest++s).size=rest.size+s.size:=ByteArray.size_append
 obtain⟨X,hX⟩:∃ X,rest++s=X:=⟨_,rfl⟩
 rw [hX] at hcat hxs ⊢
 have hXlt:X.size≤1048640:=by omega
 clear hX hRt
 refine(callsIn_wide (n:=9)).1 ?_
 refine callsIn_of_wp_marks Tryz.func228 rfl trivial ?_ rfl
 simp only [Tryz.ntmps228,List.size_toArray,List.length_cons,List.length_nil,Nat.reduceAdd,Nat.reduceSub,Array.replicate_succ,Array.replicate_zero,List.push_toArray,List.append_toArray,List.nil_append,List.cons_append]
 dsimp only [Sha.hash,Ws.vals,List.map_cons,List.map_nil]
 gi_wp2_with (refine⟨trivial,?_⟩;gi_at_call 237;fail)
 refine⟨trivial,?_⟩
 refine(callsIn_wide.2 (HRt.out _)).mono ?_
 rintro e w1 ⟨rfl,hb1⟩
 obtain⟨hb,hhb⟩:∃ hb,w.heap.size=hb:=⟨_,rfl⟩
 have hr1:Row w1 hb 217 #[.int .u32 a0,.int .u32 a1,.int .u32 a2,.int .u32 a3,.int .u32 a4,.int .u32 a5,.int .u32 a6,.int .u32 a7,.string rest,.int .i64 (many:Int)]:=by
  have h:=((Row.new w 217 #[.int .u32 a0,.int .u32 a1,.int .u32 a2,.int .u32 a3,.int .u32 a4,.int .u32 a5,.int .u32 a6,.int .u32 a7,.string rest,.int .i64 (many:Int)]).alloc (.cells #[.int .u32 0,.int .u32 0,.int .u32 0,.int .u32 0,.int .u32 0,.int .u32 0,.int .u32 0,.int .u32 0,.string ⟨#[]⟩,.int .i64 0] 217)).below hb1 (by simp only [World.size_alloc];omega)
  rwa [hhb] at h
 have hz1r:Row w1 (hb+1) 217 #[.int .u32 0,.int .u32 0,.int .u32 0,.int .u32 0,.int .u32 0,.int .u32 0,.int .u32 0,.int .u32 0,.string ⟨#[]⟩,.int .i64 0]:=by
  have h:=(Row.new (w.alloc (.cells #[.int .u32 a0,.int .u32 a1,.int .u32 a2,.int .u32 a3,.int .u32 a4,.int .u32 a5,.int .u32 a6,.int .u32 a7,.string rest,.int .i64 (many:Int)] 217)) 217 #[.int .u32 0,.int .u32 0,.int .u32 0,.int .u32 0,.int .u32 0,.int .u32 0,.int .u32 0,.int .u32 0,.string ⟨#[]⟩,.int .i64 0]).below hb1 (by simp only [World.size_alloc];omega)
  rwa [World.size_alloc,hhb] at h
 have hk1:Keep (fun _=>True) w w1:=((((Keep.refl _ w).alloc _).alloc _).trans ((Keep.below hb1).mono fun _ _ _=>trivial))
 have hz1:hb+2≤w1.heap.size:=by have:=hb1.size;simp at this;omega
 have c8:=hr1.cell 8
 have c9:=hr1.cell 9
 have f9:=hr1.frozen 9
 have hgt:¬ (1048576:Int)-(many:Int)<(s.size:Int):=by omega
 have Hr1:=Lib.hid hr1
 have Hz1r:=Lib.hid hz1r
 have Hk1:=Lib.hid hk1
 clear hr1 hz1r hk1 hb1
 rw [hhb] at h0
 rw [hhb]
 gi_wp2
 refine wpIn_wide.2 ?_
 go_still_tail 11,(by kernel_rfl)
 change wpList _ _ _ _ _ (World.drew w1)
 go_wp2
 obtain⟨w5,hw5⟩:∃ W,(w1.setCell ⟨hb,9,none⟩ (.int .i64 ((many:Int)+(s.size:Int)))).drew=W:=⟨_,rfl⟩
 have hk15:Keep (fun k=>¬ k=hb) w1 w5:=by rw [← hw5];exact((Keep.refl _ _).setCell (p:=⟨hb,9,none⟩) (fun h=>absurd rfl h) _).drew
 have hr5:Row w5 hb 217 (Ws.vals [a0,a1,a2,a3,a4,a5,a6,a7]++#[.string rest,.int .i64 ((many:Int)+(s.size:Int))]):=by rw [← hw5];exact(Hr1.out.store 9 (.int .i64 ((many:Int)+(s.size:Int)))).drew
 rw [hw5]
 gi_wp2_with (refine⟨trivial,?_⟩;gi_at_call 238;fail)
 refine⟨trivial,?_⟩
 refine(callsIn_wide.2 (digBlocks_any X _)).mono ?_
 rintro e w2 ⟨rfl,hw2⟩
 obtain⟨bs,hbs⟩:∃ bs,w5.heap.size=bs:=⟨_,rfl⟩
 have hk52:Keep (fun _=>True) w5 w2:=by rw [hw2];exact(Keep.refl _ _).alloc _
 have hz2:w2.heap.size=bs+1:=by rw [hw2,← hbs];simp
 have hbx:w2.cell? ⟨bs,0,none⟩=some (.string X):=by rw [hw2,← hbs];go_simp
 have hfx:w2.frozen? ⟨bs,0,none⟩=false:=by rw [hw2,← hbs];go_simp
 have hz5:hb+2≤bs:=by have:=hk15.size;omega
 have hk02:Keep (fun k=>¬ k=hb) w w2:=((Hk1.out.mono fun _ _ _=>trivial).trans hk15).trans (hk52.mono fun _ _ _=>trivial)
 have hat:AbsAt hb [a0,a1,a2,a3,a4,a5,a6,a7] rest ((many:Int)+(s.size:Int)) w2 [] w2:=⟨hr5.keep hk52 trivial,HRd.out.keep hk02 (by omega),Keep.refl _ _⟩
 have hrz:=Hz1r.out.keep (hk15.trans (hk52.mono fun _ _ _=>trivial)) (by omega)
 have Hat:=Lib.hid hat
 have Hrz:=Lib.hid hrz
 have Hk02:=Lib.hid hk02
 rw [hbs]
 clear hat hrz hk02 hk52 hk15 hr5 hw5 hw2 Hr1 Hz1r Hk1 c8 c9 f9 HRt HRd
 gi_wp2
 refine wp_rangeF (n:=9) (gf:=248) (lb:=#[.pointer (some ⟨bs,0,none⟩)]) rfl
  (enters_of Tryz.func248 (by kernel_rfl) rfl)
  (digBlocks1_any bs X (by omega) (fun k=>k=bs) rfl w2 hbx hfx)
  (by omega) (by omega) (fun _ _ _ _=>trivial) (fun _=>rfl) (fun k=>k=hb) (by omega) (AbsAt hb [a0,a1,a2,a3,a4,a5,a6,a7] rest ((many:Int)+(s.size:Int)) w2) (fun _ _ _=>False)
  (fun s A B hs hk=>hs.keep h0 hk (by omega)) (fun _ _ _ _ hs _=>hs) Hat.out ?body ?done ?stop
 case stop=>intro c pre suf W _ h;exact h.elim
 case done=>
  rintro W hat _ hz hK
  have hVl:=Sha.absorb_length (H:=[a0,a1,a2,a3,a4,a5,a6,a7]) rfl X
  obtain⟨V,hV⟩:∃ V,Sha.absorb [a0,a1,a2,a3,a4,a5,a6,a7] X=V:=⟨_,rfl⟩
  unfold AbsAt at hat
  rw [show (Sha.chunks X).foldl (fun h b=>Sha.compress h (bytesOf b)) [a0,a1,a2,a3,a4,a5,a6,a7]=V from hV] at hat
  rw [hV] at hVl
  have HV:=Lib.hid hV
  clear hV
  obtain⟨r0,r1,r2,r3,r4,r5,r6,r7,rfl⟩:=Sha.list8 hVl
  have hrow:Row W hb 217 #[.int .u32 r0,.int .u32 r1,.int .u32 r2,.int .u32 r3,.int .u32 r4,.int .u32 r5,.int .u32 r6,.int .u32 r7,.string rest,.int .i64 ((many:Int)+(s.size:Int))]:=hat.1
  have e8:=hrow.cell 8
  have g8:=hrow.frozen 8
  have hr2:=hrow.store 8 (.string (Sha.left X))
  have hk82:Keep (fun k=>¬ k=hb) W (W.setCell ⟨hb,8,none⟩ (.string (Sha.left X))):=(Keep.refl _ _).setCell (p:=⟨hb,8,none⟩) (fun h=>absurd rfl h) _
  obtain⟨W8,hW8⟩:∃ W8,W.setCell ⟨hb,8,none⟩ (.string (Sha.left X))=W8:=⟨_,rfl⟩
  rw [hW8] at hr2 hk82
  have hrz8:=(Hrz.out.keep hat.2.2 ⟨by omega,by omega⟩).keep hk82 (by omega)
  rw [hz2] at hK hz ⊢
  have hK8:=hk82.heap (by omega) hK
  have hs1:=fun W=>sl_lo X ((X.size:Int)-(X.size:Int)%64) (X.size-X.size%64) (by omega) (by omega) W
  have hk08:Keep (fun k=>k<hb) w W8:=((Hk02.out.mono fun k (hk:k<hb) _=>by omega).trans (hat.2.2.mono fun k (hk:k<hb) _=>⟨by omega,by omega⟩)).trans (hk82.mono fun k (hk:k<hb) _=>by omega)
  have hmany:0≤(many:Int)+(s.size:Int)∧(many:Int)+(s.size:Int)≤1048576:=by omega
  have hmod:(X.size:Int)%64≤(X.size:Int):=by omega
  have HW8:=Lib.hid hW8
  have HK8:=Lib.hid hK8
  have Hk08:=Lib.hid hk08
  have Hrz8:=Lib.hid hrz8
  have xc0:=hrow.cell 0
  have xc1:=hrow.cell 1
  have xc2:=hrow.cell 2
  have xc3:=hrow.cell 3
  have xc4:=hrow.cell 4
  have xc5:=hrow.cell 5
  have xc6:=hrow.cell 6
  have xc7:=hrow.cell 7
  have xc9:=hrow.cell 9
  have hrzW:=Hrz.out.keep hat.2.2 ⟨by omega,by omega⟩
  have zc0:=hrzW.cell 0
  have zf0:=hrzW.frozen 0
  have zc1:=hrzW.cell 1
  have zf1:=hrzW.frozen 1
  have zc2:=hrzW.cell 2
  have zf2:=hrzW.frozen 2
  have zc3:=hrzW.cell 3
  have zf3:=hrzW.frozen 3
  have zc4:=hrzW.cell 4
  have zf4:=hrzW.frozen 4
  have zc5:=hrzW.cell 5
  have zf5:=hrzW.frozen 5
  have zc6:=hrzW.cell 6
  have zf6:=hrzW.frozen 6
  have zc7:=hrzW.cell 7
  have zf7:=hrzW.frozen 7
  have zc8:=hrzW.cell 8
  have zf8:=hrzW.frozen 8
  have zc9:=hrzW.cell 9
  have zf9:=hrzW.frozen 9
  have y0:Row (W8.setCell ⟨hb+1,0,none⟩ (.int .u32 r0)) (hb+1) 217 #[.int .u32 r0,.int .u32 0,.int .u32 0,.int .u32 0,.int .u32 0,.int .u32 0,.int .u32 0,.int .u32 0,.string ⟨#[]⟩,.int .i64 0]:=(Hrz8.out).store 0 _
  have y1:Row ((W8.setCell ⟨hb+1,0,none⟩ (.int .u32 r0)).setCell ⟨hb+1,1,none⟩ (.int .u32 r1)) (hb+1) 217 #[.int .u32 r0,.int .u32 r1,.int .u32 0,.int .u32 0,.int .u32 0,.int .u32 0,.int .u32 0,.int .u32 0,.string ⟨#[]⟩,.int .i64 0]:=(y0).store 1 _
  have y2:Row (((W8.setCell ⟨hb+1,0,none⟩ (.int .u32 r0)).setCell ⟨hb+1,1,none⟩ (.int .u32 r1)).setCell ⟨hb+1,2,none⟩ (.int .u32 r2)) (hb+1) 217 #[.int .u32 r0,.int .u32 r1,.int .u32 r2,.int .u32 0,.int .u32 0,.int .u32 0,.int .u32 0,.int .u32 0,.string ⟨#[]⟩,.int .i64 0]:=(y1).store 2 _
  have y3:Row ((((W8.setCell ⟨hb+1,0,none⟩ (.int .u32 r0)).setCell ⟨hb+1,1,none⟩ (.int .u32 r1)).setCell ⟨hb+1,2,none⟩ (.int .u32 r2)).setCell ⟨hb+1,3,none⟩ (.int .u32 r3)) (hb+1) 217 #[.int .u32 r0,.int .u32 r1,.int .u32 r2,.int .u32 r3,.int .u32 0,.int .u32 0,.int .u32 0,.int .u32 0,.string ⟨#[]⟩,.int .i64 0]:=(y2).store 3 _
  have y4:Row (((((W8.setCell ⟨hb+1,0,none⟩ (.int .u32 r0)).setCell ⟨hb+1,1,none⟩ (.int .u32 r1)).setCell ⟨hb+1,2,none⟩ (.int .u32 r2)).setCell ⟨hb+1,3,none⟩ (.int .u32 r3)).setCell ⟨hb+1,4,none⟩ (.int .u32 r4)) (hb+1) 217 #[.int .u32 r0,.int .u32 r1,.int .u32 r2,.int .u32 r3,.int .u32 r4,.int .u32 0,.int .u32 0,.int .u32 0,.string ⟨#[]⟩,.int .i64 0]:=(y3).store 4 _
  have y5:Row ((((((W8.setCell ⟨hb+1,0,none⟩ (.int .u32 r0)).setCell ⟨hb+1,1,none⟩ (.int .u32 r1)).setCell ⟨hb+1,2,none⟩ (.int .u32 r2)).setCell ⟨hb+1,3,none⟩ (.int .u32 r3)).setCell ⟨hb+1,4,none⟩ (.int .u32 r4)).setCell ⟨hb+1,5,none⟩ (.int .u32 r5)) (hb+1) 217 #[.int .u32 r0,.int .u32 r1,.int .u32 r2,.int .u32 r3,.int .u32 r4,.int .u32 r5,.int .u32 0,.int .u32 0,.string ⟨#[]⟩,.int .i64 0]:=(y4).store 5 _
  have y6:Row (((((((W8.setCell ⟨hb+1,0,none⟩ (.int .u32 r0)).setCell ⟨hb+1,1,none⟩ (.int .u32 r1)).setCell ⟨hb+1,2,none⟩ (.int .u32 r2)).setCell ⟨hb+1,3,none⟩ (.int .u32 r3)).setCell ⟨hb+1,4,none⟩ (.int .u32 r4)).setCell ⟨hb+1,5,none⟩ (.int .u32 r5)).setCell ⟨hb+1,6,none⟩ (.int .u32 r6)) (hb+1) 217 #[.int .u32 r0,.int .u32 r1,.int .u32 r2,.int .u32 r3,.int .u32 r4,.int .u32 r5,.int .u32 r6,.int .u32 0,.string ⟨#[]⟩,.int .i64 0]:=(y5).store 6 _
  have y7:Row ((((((((W8.setCell ⟨hb+1,0,none⟩ (.int .u32 r0)).setCell ⟨hb+1,1,none⟩ (.int .u32 r1)).setCell ⟨hb+1,2,none⟩ (.int .u32 r2)).setCell ⟨hb+1,3,none⟩ (.int .u32 r3)).setCell ⟨hb+1,4,none⟩ (.int .u32 r4)).setCell ⟨hb+1,5,none⟩ (.int .u32 r5)).setCell ⟨hb+1,6,none⟩ (.int .u32 r6)).setCell ⟨hb+1,7,none⟩ (.int .u32 r7)) (hb+1) 217 #[.int .u32 r0,.int .u32 r1,.int .u32 r2,.int .u32 r3,.int .u32 r4,.int .u32 r5,.int .u32 r6,.int .u32 r7,.string ⟨#[]⟩,.int .i64 0]:=(y6).store 7 _
  have y8:Row (((((((((W8.setCell ⟨hb+1,0,none⟩ (.int .u32 r0)).setCell ⟨hb+1,1,none⟩ (.int .u32 r1)).setCell ⟨hb+1,2,none⟩ (.int .u32 r2)).setCell ⟨hb+1,3,none⟩ (.int .u32 r3)).setCell ⟨hb+1,4,none⟩ (.int .u32 r4)).setCell ⟨hb+1,5,none⟩ (.int .u32 r5)).setCell ⟨hb+1,6,none⟩ (.int .u32 r6)).setCell ⟨hb+1,7,none⟩ (.int .u32 r7)).setCell ⟨hb+1,8,none⟩ (.string (Sha.left X))) (hb+1) 217 #[.int .u32 r0,.int .u32 r1,.int .u32 r2,.int .u32 r3,.int .u32 r4,.int .u32 r5,.int .u32 r6,.int .u32 r7,.string (Sha.left X),.int .i64 0]:=(y7).store 8 _
  have y9:Row ((((((((((W8.setCell ⟨hb+1,0,none⟩ (.int .u32 r0)).setCell ⟨hb+1,1,none⟩ (.int .u32 r1)).setCell ⟨hb+1,2,none⟩ (.int .u32 r2)).setCell ⟨hb+1,3,none⟩ (.int .u32 r3)).setCell ⟨hb+1,4,none⟩ (.int .u32 r4)).setCell ⟨hb+1,5,none⟩ (.int .u32 r5)).setCell ⟨hb+1,6,none⟩ (.int .u32 r6)).setCell ⟨hb+1,7,none⟩ (.int .u32 r7)).setCell ⟨hb+1,8,none⟩ (.string (Sha.left X))).setCell ⟨hb+1,9,none⟩ (.int .i64 ((many:Int)+(s.size:Int)))) (hb+1) 217 #[.int .u32 r0,.int .u32 r1,.int .u32 r2,.int .u32 r3,.int .u32 r4,.int .u32 r5,.int .u32 r6,.int .u32 r7,.string (Sha.left X),.int .i64 ((many:Int)+(s.size:Int))]:=(y8).store 9 _
  have hrf:=y9
  have hkf:=((((((((((Keep.refl (fun k=>¬ k=hb+1) W8).setCell (p:=⟨hb+1,0,none⟩) (fun h=>absurd rfl h) (.int .u32 r0)).setCell (p:=⟨hb+1,1,none⟩) (fun h=>absurd rfl h) (.int .u32 r1)).setCell (p:=⟨hb+1,2,none⟩) (fun h=>absurd rfl h) (.int .u32 r2)).setCell (p:=⟨hb+1,3,none⟩) (fun h=>absurd rfl h) (.int .u32 r3)).setCell (p:=⟨hb+1,4,none⟩) (fun h=>absurd rfl h) (.int .u32 r4)).setCell (p:=⟨hb+1,5,none⟩) (fun h=>absurd rfl h) (.int .u32 r5)).setCell (p:=⟨hb+1,6,none⟩) (fun h=>absurd rfl h) (.int .u32 r6)).setCell (p:=⟨hb+1,7,none⟩) (fun h=>absurd rfl h) (.int .u32 r7)).setCell (p:=⟨hb+1,8,none⟩) (fun h=>absurd rfl h) (.string (Sha.left X))).setCell (p:=⟨hb+1,9,none⟩) (fun h=>absurd rfl h) (.int .i64 ((many:Int)+(s.size:Int)))
  obtain⟨WF,hWF⟩:∃ WF,((((((((((W8.setCell ⟨hb+1,0,none⟩ (.int .u32 r0)).setCell ⟨hb+1,1,none⟩ (.int .u32 r1)).setCell ⟨hb+1,2,none⟩ (.int .u32 r2)).setCell ⟨hb+1,3,none⟩ (.int .u32 r3)).setCell ⟨hb+1,4,none⟩ (.int .u32 r4)).setCell ⟨hb+1,5,none⟩ (.int .u32 r5)).setCell ⟨hb+1,6,none⟩ (.int .u32 r6)).setCell ⟨hb+1,7,none⟩ (.int .u32 r7)).setCell ⟨hb+1,8,none⟩ (.string (Sha.left X))).setCell ⟨hb+1,9,none⟩ (.int .i64 ((many:Int)+(s.size:Int))))=WF:=⟨_,rfl⟩
  rw [hWF] at hrf hkf
  have Hrf:Hid (Row WF (hb+1) 217 #[.int .u32 r0,.int .u32 r1,.int .u32 r2,.int .u32 r3,.int .u32 r4,.int .u32 r5,.int .u32 r6,.int .u32 r7,.string (Sha.left X),.int .i64 ((many:Int)+(s.size:Int))]):=Lib.hid hrf
  have Hkf:=Lib.hid hkf
  have HKf:WF.heap[bs+1]? =some (.deferred (some [])):=hkf.heap (by omega) HK8.out
  have HWF:=Lib.hid hWF
  clear hrzW h1 hxs h2 hrf hkf hWF y0 y1 y2 y3 y4 y5 y6 y7 y8 y9 hrow hat hk82 hrz8 hK8 hk08 hr2 hK hW8
  gi_wp2
  change bodyPostM _ _ _ _ _ _ _ (((((((((((W.setCell ⟨hb,8,none⟩ (.string (Sha.left X))).setCell ⟨hb+1,0,none⟩ (.int .u32 r0)).setCell ⟨hb+1,1,none⟩ (.int .u32 r1)).setCell ⟨hb+1,2,none⟩ (.int .u32 r2)).setCell ⟨hb+1,3,none⟩ (.int .u32 r3)).setCell ⟨hb+1,4,none⟩ (.int .u32 r4)).setCell ⟨hb+1,5,none⟩ (.int .u32 r5)).setCell ⟨hb+1,6,none⟩ (.int .u32 r6)).setCell ⟨hb+1,7,none⟩ (.int .u32 r7)).setCell ⟨hb+1,8,none⟩ (.string (Sha.left X))).setCell ⟨hb+1,9,none⟩ (.int .i64 ((many:Int)+(s.size:Int))))
  rw [HW8.out,HWF.out]
  refine⟨by simp,.inl ⟨_,_,rfl,run_takeDeferred HKf,?_⟩⟩
  obtain⟨WG,hWG⟩:∃ WG,WF.putObj (bs+1) (.deferred none)=WG:=⟨_,rfl⟩
  have hkg:Keep (fun k=>¬ k=bs+1) WF WG:=by rw [← hWG];exact(Keep.refl _ _).putObj (fun h=>absurd rfl h) _
  have hrg:=Hrf.out.keep hkg (by omega)
  have qc0:=hrg.cell 0
  have qc1:=hrg.cell 1
  have qc2:=hrg.cell 2
  have qc3:=hrg.cell 3
  have qc4:=hrg.cell 4
  have qc5:=hrg.cell 5
  have qc6:=hrg.cell 6
  have qc7:=hrg.cell 7
  have qc8:=hrg.cell 8
  have qc9:=hrg.cell 9
  rw [hWG]
  refine⟨.tuple #[.agg (Sha.hash [r0,r1,r2,r3,r4,r5,r6,r7] (Sha.left X) (many+s.size)),.int .i64 0],?_,?_,?_⟩
  · simp [results,Tryz.f228,go_sem,qc0,qc1,qc2,qc3,qc4,qc5,qc6,qc7,qc8,qc9,Sha.hash]
  · rw [HV.out]
    rfl
  · rw [hhb]
    exact((Hk08.out.trans (Hkf.out.mono fun k (hk:k<hb) _=>by omega)).trans (hkg.mono fun k (hk:k<hb) _=>by omega))
 case body=>
  intro lp pre x rest' W hxs2 hz hi
  have hx64:x.size=64:=Sha.chunks_size (s:=X) (by rw [hxs2];simp)
  have hfold:(pre++[x]).foldl (fun h b=>Sha.compress h (bytesOf b)) [a0,a1,a2,a3,a4,a5,a6,a7]=Sha.compress (pre.foldl (fun h b=>Sha.compress h (bytesOf b)) [a0,a1,a2,a3,a4,a5,a6,a7]) (bytesOf x):=by rw [List.foldl_append];rfl
  have Hfold:=Lib.hid hfold
  have Hi:=Lib.hid hi
  clear hfold hi hxs2 hbx hfx
  dsimp only [Sha.encb]
  gi_wp2
  repeat ((rw [Oper.semAt_eq _ _ _ (fun c h=>by cases h)];go_simp);gi_wp2)
  refine⟨Keep.refl _ _,fun W3 hk hzz=> ?_⟩
  have hi3:=Hi.out.keep h0 hk (by omega)
  have hVl:=Sha.absorbs_length pre (H:=[a0,a1,a2,a3,a4,a5,a6,a7]) rfl
  obtain⟨V,hV⟩:∃ V,pre.foldl (fun h b=>Sha.compress h (bytesOf b)) [a0,a1,a2,a3,a4,a5,a6,a7]=V:=⟨_,rfl⟩
  unfold AbsAt at hi3
  rw [hV] at hi3 hVl
  have HV:=Lib.hid hV
  clear hV Hi hk
  obtain⟨v0,v1,v2,v3,v4,v5,v6,v7,rfl⟩:=Sha.list8 hVl
  have hrow:Row W3 hb 217 #[.int .u32 v0,.int .u32 v1,.int .u32 v2,.int .u32 v3,.int .u32 v4,.int .u32 v5,.int .u32 v6,.int .u32 v7,.string rest,.int .i64 ((many:Int)+(s.size:Int))]:=hi3.1
  have c0:=hrow.cell 0
  have c1:=hrow.cell 1
  have c2:=hrow.cell 2
  have c3:=hrow.cell 3
  have c4:=hrow.cell 4
  have c5:=hrow.cell 5
  have c6:=hrow.cell 6
  have c7:=hrow.cell 7
  have hcc:=Compress_any [v0,v1,v2,v3,v4,v5,v6,v7] rfl x hx64 W3 hi3.2.1
  have hrl:=Sha.compress_length (H:=[v0,v1,v2,v3,v4,v5,v6,v7]) rfl (bytesOf x)
  obtain⟨R,hRR⟩:∃ R,Sha.compress [v0,v1,v2,v3,v4,v5,v6,v7] (bytesOf x)=R:=⟨_,rfl⟩
  rw [hRR] at hcc hrl
  obtain⟨r0,r1,r2,r3,r4,r5,r6,r7,rfl⟩:=Sha.list8 hrl
  try dsimp only [Ws.vals,List.map_cons,List.map_nil] at hcc
  have Hi3:=Lib.hid hi3
  have Hcc:=Lib.hid hcc
  have HRR:=Lib.hid hRR
  have Hrow:=Lib.hid hrow
  clear hi3 hcc hRR hrow hVl hrl
  gi_wp2
  repeat ((rw [Oper.semAt_eq _ _ _ (fun c h=>by cases h)];go_simp);gi_wp2)
  refine⟨trivial,?_⟩
  refine CallsIn.inRound lp ((callsIn_wide.2 Hcc.out).mono ?_)
  rintro e w6 ⟨rfl,hk6⟩
  have hr6:=Hrow.out.keep hk6 Hrow.out.lt
  have dc0:=hr6.cell 0
  have df0:=hr6.frozen 0
  have dc1:=hr6.cell 1
  have df1:=hr6.frozen 1
  have dc2:=hr6.cell 2
  have df2:=hr6.frozen 2
  have dc3:=hr6.cell 3
  have df3:=hr6.frozen 3
  have dc4:=hr6.cell 4
  have df4:=hr6.frozen 4
  have dc5:=hr6.cell 5
  have df5:=hr6.frozen 5
  have dc6:=hr6.cell 6
  have df6:=hr6.frozen 6
  have dc7:=hr6.cell 7
  have df7:=hr6.frozen 7
  have u0:Row (w6.setCell ⟨hb,0,none⟩ (.int .u32 r0)) (hb) 217 #[.int .u32 r0,.int .u32 v1,.int .u32 v2,.int .u32 v3,.int .u32 v4,.int .u32 v5,.int .u32 v6,.int .u32 v7,.string rest,.int .i64 ((many:Int)+(s.size:Int))]:=(hr6).store 0 _
  have u1:Row ((w6.setCell ⟨hb,0,none⟩ (.int .u32 r0)).setCell ⟨hb,1,none⟩ (.int .u32 r1)) (hb) 217 #[.int .u32 r0,.int .u32 r1,.int .u32 v2,.int .u32 v3,.int .u32 v4,.int .u32 v5,.int .u32 v6,.int .u32 v7,.string rest,.int .i64 ((many:Int)+(s.size:Int))]:=(u0).store 1 _
  have u2:Row (((w6.setCell ⟨hb,0,none⟩ (.int .u32 r0)).setCell ⟨hb,1,none⟩ (.int .u32 r1)).setCell ⟨hb,2,none⟩ (.int .u32 r2)) (hb) 217 #[.int .u32 r0,.int .u32 r1,.int .u32 r2,.int .u32 v3,.int .u32 v4,.int .u32 v5,.int .u32 v6,.int .u32 v7,.string rest,.int .i64 ((many:Int)+(s.size:Int))]:=(u1).store 2 _
  have u3:Row ((((w6.setCell ⟨hb,0,none⟩ (.int .u32 r0)).setCell ⟨hb,1,none⟩ (.int .u32 r1)).setCell ⟨hb,2,none⟩ (.int .u32 r2)).setCell ⟨hb,3,none⟩ (.int .u32 r3)) (hb) 217 #[.int .u32 r0,.int .u32 r1,.int .u32 r2,.int .u32 r3,.int .u32 v4,.int .u32 v5,.int .u32 v6,.int .u32 v7,.string rest,.int .i64 ((many:Int)+(s.size:Int))]:=(u2).store 3 _
  have u4:Row (((((w6.setCell ⟨hb,0,none⟩ (.int .u32 r0)).setCell ⟨hb,1,none⟩ (.int .u32 r1)).setCell ⟨hb,2,none⟩ (.int .u32 r2)).setCell ⟨hb,3,none⟩ (.int .u32 r3)).setCell ⟨hb,4,none⟩ (.int .u32 r4)) (hb) 217 #[.int .u32 r0,.int .u32 r1,.int .u32 r2,.int .u32 r3,.int .u32 r4,.int .u32 v5,.int .u32 v6,.int .u32 v7,.string rest,.int .i64 ((many:Int)+(s.size:Int))]:=(u3).store 4 _
  have u5:Row ((((((w6.setCell ⟨hb,0,none⟩ (.int .u32 r0)).setCell ⟨hb,1,none⟩ (.int .u32 r1)).setCell ⟨hb,2,none⟩ (.int .u32 r2)).setCell ⟨hb,3,none⟩ (.int .u32 r3)).setCell ⟨hb,4,none⟩ (.int .u32 r4)).setCell ⟨hb,5,none⟩ (.int .u32 r5)) (hb) 217 #[.int .u32 r0,.int .u32 r1,.int .u32 r2,.int .u32 r3,.int .u32 r4,.int .u32 r5,.int .u32 v6,.int .u32 v7,.string rest,.int .i64 ((many:Int)+(s.size:Int))]:=(u4).store 5 _
  have u6:Row (((((((w6.setCell ⟨hb,0,none⟩ (.int .u32 r0)).setCell ⟨hb,1,none⟩ (.int .u32 r1)).setCell ⟨hb,2,none⟩ (.int .u32 r2)).setCell ⟨hb,3,none⟩ (.int .u32 r3)).setCell ⟨hb,4,none⟩ (.int .u32 r4)).setCell ⟨hb,5,none⟩ (.int .u32 r5)).setCell ⟨hb,6,none⟩ (.int .u32 r6)) (hb) 217 #[.int .u32 r0,.int .u32 r1,.int .u32 r2,.int .u32 r3,.int .u32 r4,.int .u32 r5,.int .u32 r6,.int .u32 v7,.string rest,.int .i64 ((many:Int)+(s.size:Int))]:=(u5).store 6 _
  have u7:Row ((((((((w6.setCell ⟨hb,0,none⟩ (.int .u32 r0)).setCell ⟨hb,1,none⟩ (.int .u32 r1)).setCell ⟨hb,2,none⟩ (.int .u32 r2)).setCell ⟨hb,3,none⟩ (.int .u32 r3)).setCell ⟨hb,4,none⟩ (.int .u32 r4)).setCell ⟨hb,5,none⟩ (.int .u32 r5)).setCell ⟨hb,6,none⟩ (.int .u32 r6)).setCell ⟨hb,7,none⟩ (.int .u32 r7)) (hb) 217 #[.int .u32 r0,.int .u32 r1,.int .u32 r2,.int .u32 r3,.int .u32 r4,.int .u32 r5,.int .u32 r6,.int .u32 r7,.string rest,.int .i64 ((many:Int)+(s.size:Int))]:=(u6).store 7 _
  have hkf:=((((((((Keep.refl (fun k=>¬ k=hb) w6).setCell (p:=⟨hb,0,none⟩) (fun h=>absurd rfl h) (.int .u32 r0)).setCell (p:=⟨hb,1,none⟩) (fun h=>absurd rfl h) (.int .u32 r1)).setCell (p:=⟨hb,2,none⟩) (fun h=>absurd rfl h) (.int .u32 r2)).setCell (p:=⟨hb,3,none⟩) (fun h=>absurd rfl h) (.int .u32 r3)).setCell (p:=⟨hb,4,none⟩) (fun h=>absurd rfl h) (.int .u32 r4)).setCell (p:=⟨hb,5,none⟩) (fun h=>absurd rfl h) (.int .u32 r5)).setCell (p:=⟨hb,6,none⟩) (fun h=>absurd rfl h) (.int .u32 r6)).setCell (p:=⟨hb,7,none⟩) (fun h=>absurd rfl h) (.int .u32 r7)
  have Hrf:=Lib.hid u7
  have Hkf:=Lib.hid hkf
  have Hk6:=Lib.hid hk6
  clear hkf hk6 hr6 u0 u1 u2 u3 u4 u5 u6 u7 c0 c1 c2 c3 c4 c5 c6 c7
  gi_wp2
  repeat ((rw [Oper.semAt_eq _ _ _ (fun c h=>by cases h)];go_simp);gi_wp2)
  have hlt3:=Hrow.out.lt
  have hall:Keep (fun k=>¬ k=hb∧k<W3.heap.size) W3 ((((((((w6.setCell ⟨hb,0,none⟩ (.int .u32 r0)).setCell ⟨hb,1,none⟩ (.int .u32 r1)).setCell ⟨hb,2,none⟩ (.int .u32 r2)).setCell ⟨hb,3,none⟩ (.int .u32 r3)).setCell ⟨hb,4,none⟩ (.int .u32 r4)).setCell ⟨hb,5,none⟩ (.int .u32 r5)).setCell ⟨hb,6,none⟩ (.int .u32 r6)).setCell ⟨hb,7,none⟩ (.int .u32 r7)):=(Hk6.out.mono fun k hk _=>hk.2).trans (Hkf.out.mono fun k hk _=>hk.1)
  refine⟨⟨hall.os,hall.tape,hall.output,hall.size,fun k hk hl=>hall.block k ⟨hk,hl⟩ hl⟩,?_⟩
  unfold AbsAt
  rw [Hfold.out,HV.out,HRR.out]
  refine⟨Hrf.out,Hi3.out.2.1.keep hall ⟨by omega,by omega⟩,Hi3.out.2.2.trans (hall.mono fun k (hk:k<hb+2∧k≠hb) hl=>⟨hk.2,hl⟩)⟩
end Go.Proofs.YtpnbkfboneabaaaGreat
