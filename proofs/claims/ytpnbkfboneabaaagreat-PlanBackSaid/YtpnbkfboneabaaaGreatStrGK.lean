import Derived.Test.YtpnbkfboneabaaaGreatStrFK
import Derived.Test.YtpnbkfboneabaaaGreatGE
set_option maxRecDepth 100000
set_option maxHeartbeats 4000000
namespace Go.Proofs.YtpnbkfboneabaaaGreat
open Go.RowKit
def Str.stream (F:List Nat→List Nat) (C:List Nat) (N:Nat):List Nat:=(List.range N).flatMap fun i=>F (Ctr.next C i)
def Str.keys (F:List Nat→List Nat) (C:List Nat) (n:Nat):List Nat:=(Str.stream F C ((n+15) / 16)).take n
def Str.joined (pre:List ByteArray):List UInt8:=pre.flatMap fun s=>s.data.toList
theorem Str.joined_append (a b:List ByteArray):Str.joined (a++b)=Str.joined a++Str.joined b:=by simp [Str.joined]
theorem Str.joined_one (a:ByteArray):Str.joined [a]=a.data.toList:=by simp [Str.joined]
theorem Str.joined_blocks (F:List Nat→List Nat) (C:List Nat) (N:Nat):Str.joined (Str.blocks F C N)=(Str.stream F C N).map UInt8.ofNat:=by
 unfold Str.joined Str.blocks Str.stream
 rw [List.flatMap_map,List.map_flatMap]
 rfl
theorem Str.joined_length {pre:List ByteArray} (h:∀ x∈pre,x.size=16):(Str.joined pre).length=16*pre.length:=by
 induction pre with
 | nil=>rfl
 | cons a pre ih=>
   have h1:a.data.toList.length=16:=h a (by simp)
   have h2:=ih fun x hx=>h x (by simp [hx])
   rw [show a::pre=[a]++pre from rfl,Str.joined_append,List.length_append,Str.joined_one,h1,h2]
   simp;omega
theorem Str.blocks_size {F:List Nat→List Nat} (hF:∀ c,c.length=16→(F c).length=16) (C:List Nat) (N:Nat):∀ x∈Str.blocks F C N,x.size=16:=by
 intro x hx
 obtain⟨i,_,rfl⟩:=List.mem_map.1 hx
 rw [Str.block,strOf_size]
 exact hF _ (Ctr.next_length _ _)
theorem Str.joined_take {F:List Nat→List Nat} {C:List Nat} {N n:Nat} {pre suf:List ByteArray} (h:pre++suf=Str.blocks F C N) (hn:n≤(Str.joined pre).length):
 (⟨(Str.joined pre).toArray⟩:ByteArray).extract 0 n=strOf ((Str.stream F C N).take n):=by
 have e:=Str.joined_blocks F C N
 rw [← h,Str.joined_append] at e
 apply ByteArray.ext
 rw [ByteArray.data_extract]
 apply Array.toList_inj.1
 rw [strOf,List.map_take,← e,List.take_append_of_le_length hn]
 simp
theorem Str.stream_length {F:List Nat→List Nat} (hF:∀ c,c.length=16→(F c).length=16) (C:List Nat) (N:Nat):(Str.stream F C N).length=16*N:=by
 have h:=Str.joined_length (Str.blocks_size hF C N)
 rwa [Str.joined_blocks,List.length_map,Str.blocks_length] at h
theorem Str.keys_length {F:List Nat→List Nat} (hF:∀ c,c.length=16→(F c).length=16) (C:List Nat) (n:Nat):(Str.keys F C n).length=n:=by
 rw [Str.keys,List.length_take,Str.stream_length hF];omega
def KeysAt (bb B h0 n:Nat) (w0:World) (pre:List ByteArray) (W:World):Prop:=
 Bd.At bb B (Str.joined pre) W∧(Str.joined pre).length<n∧W.cell? ⟨h0,0,none⟩=some (.int .i64 (n:Int))∧Keep (fun k=>k<h0) w0 W
def KeysEnd (bb B h0 n:Nat) (w0:World) (pre:List ByteArray) (W:World):Prop:=
 Bd.At bb B (Str.joined pre) W∧n≤(Str.joined pre).length∧W.cell? ⟨h0,0,none⟩=some (.int .i64 (n:Int))∧Keep (fun k=>k<h0) w0 W
theorem KeysAt.keep {bb B h0 n:Nat} {w0 W W':World} {pre:List ByteArray} {S:Nat→Prop} (h:KeysAt bb B h0 n w0 pre W) (hk:Keep S W W') (hb:S bb) (hB:∀ k,B≤k→S k) (hl:∀ k,k≤h0→S k):KeysAt bb B h0 n w0 pre W':=
 ⟨h.1.keep hk hb hB,h.2.1,hk.cell (p:=⟨h0,0,none⟩) (hl _ (Nat.le_refl _)) h.2.2.1,h.2.2.2.trans (hk.mono fun k hk' _=>hl k (Nat.le_of_lt hk'))⟩
theorem KeysEnd.keep {bb B h0 n:Nat} {w0 W W':World} {pre:List ByteArray} {S:Nat→Prop} (h:KeysEnd bb B h0 n w0 pre W) (hk:Keep S W W') (hb:S bb) (hB:∀ k,B≤k→S k) (hl:∀ k,k≤h0→S k):KeysEnd bb B h0 n w0 pre W':=
 ⟨h.1.keep hk hb hB,h.2.1,hk.cell (p:=⟨h0,0,none⟩) (hl _ (Nat.le_refl _)) h.2.2.1,h.2.2.2.trans (hk.mono fun k hk' _=>hl k (Nat.le_of_lt hk'))⟩
theorem Keys_any (t c:ByteArray) (hg:Str.good t=true) (hT:Str.Told t) (hc:c.size=16) (n:Nat) (hn:n≤65536) (F:List Nat→List Nat) (hF:Str.Enc t F) (hFl:∀ c,c.length=16→(F c).length=16) (w:World):
 Calls Tryz.prog 234 #[.string t,.string c,.int .i64 (n:Int)] w fun e w'=>e= .returned (.tuple #[.string (strOf (Str.keys F (bytesOf c) n)),.int .i64 0])∧Keep (fun k=>k<w.heap.size) w w':=by
 have t1:((c.size:Int) != 16)=false:=by rw [bne_eq_false_iff_eq];omega
 have hCl:(bytesOf c).length=16:=by rw [bytesOf_length,hc]
 have HT:=Lib.hid hT
 have HF:=Lib.hid hF
 have HFl:=Lib.hid hFl
 clear hT hF hFl
 refine(callsIn_wide (n:=9)).1 ?_
 refine callsIn_of_wp_marks Tryz.func234 rfl trivial ?_ rfl
 simp only [Tryz.ntmps234,List.size_toArray,List.length_cons,List.length_nil,Nat.reduceAdd,Nat.reduceSub,Array.replicate_succ,Array.replicate_zero,List.push_toArray,List.append_toArray,List.nil_append,List.cons_append]
 gi_wp2_with (refine⟨trivial,?_⟩;gi_at_call 246;fail)
 have hrow:Row ((w.alloc (.cells #[.int .i64 (n:Int)] 3)).alloc (.cells #[.string t,.int .u32 0,.int .i32 0,.int .u32 0,.bool false] 316)) (w.heap.size+1) 316 #[.string t,.int .u32 0,.int .i32 0,.int .u32 0,.bool false]:=by
  have h:=Row.new (w.alloc (.cells #[.int .i64 (n:Int)] 3)) 316 #[.string t,.int .u32 0,.int .i32 0,.int .u32 0,.bool false]
  rwa [World.size_alloc] at h
 refine⟨trivial,?_⟩
 refine(callsIn_wide.2 (is_first (w.heap.size+1) t _ _ HT.out _ hrow)).mono ?_
 rintro e w1 ⟨rfl,hr1,hk1⟩
 rw [hg] at hr1
 have hn1:w1.cell? ⟨w.heap.size,0,none⟩=some (.int .i64 (n:Int)):=hk1.cell (p:=⟨w.heap.size,0,none⟩) (by dsimp only;omega) (by go_simp)
 have hb1:Keep (fun k=>k<w.heap.size) w w1:=
  (((Keep.refl (fun k=>k<w.heap.size) w).alloc (.cells #[.int .i64 (n:Int)] 3)).alloc (.cells #[.string t,.int .u32 0,.int .i32 0,.int .u32 0,.bool false] 316)).trans (hk1.mono fun k (hk:k<w.heap.size) _=>by omega)
 have hz1:w.heap.size+2≤w1.heap.size:=by have:=hk1.size;simp at this;omega
 have Hr1:=Lib.hid hr1
 have Hb1:=Lib.hid hb1
 clear hr1 hb1 hk1 hrow
 rw [hg]
 obtain⟨h0,hh0⟩:∃ h0,w.heap.size=h0:=⟨_,rfl⟩
 rw [hh0] at hn1 Hr1 Hb1 hz1
 by_cases h00:n=0
 · subst h00
   gi_wp2
   refine⟨.tuple #[.string ⟨#[]⟩,.int .i64 0],by simp [results,Tryz.f234,go_sem],?_⟩
   rw [hh0]
   exact⟨rfl,Hb1.out⟩
 · have h0':((n:Int) == 0)=false:=by rw [beq_eq_false_iff_ne];omega
   gi_wp2_with (refine⟨trivial,?_⟩;gi_at_call 247;fail)
   refine⟨trivial,?_⟩
   refine(callsIn_wide.2 (blocks_any (h0+1) c _)).mono ?_
   rintro e w2 ⟨rfl,hw2⟩
   obtain⟨bb,hbb⟩:∃ bb,w1.heap.size=bb:=⟨_,rfl⟩
   have hk12:Keep (fun _=>True) w1 w2:=by rw [hw2];exact(((Keep.refl _ _).alloc _).alloc _).alloc _
   have hz2:w2.heap.size=bb+3:=by rw [hw2,← hbb];simp
   have hbx:w2.cell? ⟨bb+1,0,none⟩=some (.pointer (some ⟨h0+1,0,none⟩)):=by rw [hw2,← hbb];go_simp
   have hct:w2.cell? ⟨bb+2,0,none⟩=some (.string (strOf (bytesOf c))):=by rw [hw2,← hbb,strOf_bytesOf];go_simp
   have hfz:w2.frozen? ⟨bb+2,0,none⟩=false:=by rw [hw2,← hbb];go_simp
   have hbd:Row w2 bb 271 #[.pointer none,.slice none 0 0]:=by rw [hw2,← hbb];exact((Row.new w1 _ _).alloc _).alloc _
   have hr2:=Hr1.out.keep hk12 trivial
   have hat:KeysAt bb (bb+5) h0 n w [] w2:=
    ⟨⟨by omega,_,_,.inl rfl,hbd,rfl,.inl ⟨rfl,rfl⟩⟩,by simp [Str.joined];omega,hk12.cell (p:=⟨h0,0,none⟩) trivial hn1,Hb1.out.trans (hk12.mono fun _ _ _=>trivial)⟩
   rw [World.size_alloc,hbb]
   have Hat:=Lib.hid hat
   have Hr2:=Lib.hid hr2
   clear hat hr2 hbd hw2 Hr1 Hb1 hk12 hn1
   gi_wp2
   refine wp_rangeE (n:=9) (gf:=258) (lb:=#[.pointer (some ⟨bb+1,0,none⟩),.pointer (some ⟨bb+1+1,0,none⟩)]) rfl
    (enters_of Tryz.func258 (by kernel_rfl) rfl)
    (blocks1_any (h0+1) (bb+1) (bb+2) ((n+15) / 16) t (.int .u32 0) F (bytesOf c) hCl (bytesOf_all c) HF.out (fun k=>k=h0+1∨k=bb+1∨k=bb+2) (.inl rfl) (.inr (.inl rfl)) (.inr (.inr rfl)) (by omega) (by omega) w2 Hr2.out hbx hct hfz)
    (by omega) (by omega) (fun _=>rfl) (fun k=>k=bb∨bb+5≤k) (by omega) (KeysAt bb (bb+5) h0 n w) (fun c pre W=>c= .exit 0∧KeysEnd bb (bb+5) h0 n w pre W)
    (fun s A B hs hk=>hs.keep hk (by omega) (by omega) (by omega)) (fun c s A B hs hk=>⟨hs.1,hs.2.keep hk (by omega) (by omega) (by omega)⟩) Hat.out ?hend ?body ?stop
   case hend=>
    intro W h
    have h1:=h.2.1
    rw [Str.joined_length (Str.blocks_size HFl.out _ _),Str.blocks_length] at h1
    omega
   case stop=>
    rintro c' pre suf W hps ⟨rfl,hA,hle,hcn,hkw⟩ hz hK
    have hmix:Tryz.prog.follows .mixedOrders=true:=by kernel_rfl
    have hsl:∀ W,(Instr.slice 9 (.string ⟨(Str.joined pre).toArray⟩) none (some (.int .i64 (n:Int))) none).run Tryz.prog W= .ok (.string (strOf (Str.keys F (bytesOf c) n))) W:=fun W=>by
     rw [sl_hi (⟨(Str.joined pre).toArray⟩:ByteArray) (n:Int) n rfl (show n≤(Str.joined pre).toArray.size by simpa using hle) W,Str.joined_take hps hle,Str.keys]
    have hcd:W.drew.cell? ⟨h0,0,none⟩=some (.int .i64 (n:Int)):=hcn
    have HA:=Lib.hid (show Lib.IsBuilderF 271 5 bb bb (Lib.byteCells (Str.joined pre)) W.drew from(hA.keep (S:=fun _=>True) ((Keep.refl _ _).drew) trivial (fun _ _=>trivial)).builder)
    have Hkw:=Lib.hid hkw
    rw [hz2] at hK
    have HK:=Lib.hid (show W.drew.heap[bb+3]? =_ from hK)
    clear hA hle hkw hbx hct hfz Hat Hr2 hK
    gi_wp2
    refine wpIn_region_any hmix ?_
    change wpAnyIn _ _ _ _ _ _ _ _ _ (World.drew _)
    refine wpAnyIn_ready (rs:=[0,1]) (by kernel_rfl) (by simp) ?_
    refine AllReadyIn.cons rfl (fun K hK=> ?_) (AllReadyIn.cons rfl (fun K hK=> ?_) AllReadyIn.nil)
    · skip
      go_simp
      refine⟨trivial,?_⟩
      refine(callsIn_wide.2 (String_own bb bb (Str.joined pre) _ HA.out (by show bb≤W.heap.size;omega))).mono ?_
      rintro e w7 ⟨rfl,_,hb7,ho7⟩
      have hc7:w7.cell? ⟨h0,0,none⟩=some (.int .i64 (n:Int)):=(hb7.cell (p:=⟨h0,0,none⟩) (by dsimp only;omega)).trans hcd
      dsimp only
      refine hK _ _ ?_
      clear hK K
      refine wpAnyIn_ready (rs:=[1]) (by kernel_rfl) (by simp) ?_
      refine AllReadyIn.cons rfl (fun K hK=> ?_) AllReadyIn.nil
      go_simp
      refine hK _ _ ?_
      clear hK K
      refine wpAnyIn_ready (rs:=[2]) (by kernel_rfl) (by simp) ?_
      refine AllReadyIn.cons rfl (fun K hK=> ?_) AllReadyIn.nil
      go_simp
      refine hK _ _ ?_
      clear hK K
      refine wpAnyIn_ready (rs:=[3]) (by kernel_rfl) (by simp) ?_
      refine AllReadyIn.cons rfl (fun K hK=> ?_) AllReadyIn.nil
      go_simp
      refine hK _ _ ?_
      clear hK K
      refine wpAnyIn_ready (rs:=[4]) (by kernel_rfl) (by simp) ?_
      refine AllReadyIn.cons rfl (fun K hK=> ?_) AllReadyIn.nil
      go_simp
      refine hK _ _ ?_
      clear hK K
      refine wpAnyIn_done (by kernel_rfl) ?_ _
      gi_wp2
      refine⟨by simp,.inl ⟨_,_,rfl,run_takeDeferred (ho7 _ _ HK.out (by simp) (by simp)),?_⟩⟩
      refine⟨.tuple #[.string (strOf (Str.keys F (bytesOf c) n)),.int .i64 0],by simp [results,Tryz.f234,go_sem],?_⟩
      refine⟨rfl,?_⟩
      rw [hh0]
      exact((Hkw.out.drew.trans ⟨hb7.os,hb7.tape,hb7.output,hb7.size,fun k hk _=>hb7.block k (by omega)⟩)).putObj (fun _=>by omega) _
    · skip
      go_simp
      refine hK _ _ ?_
      clear hK K
      refine wpAnyIn_ready (rs:=[0]) (by kernel_rfl) (by simp) ?_
      refine AllReadyIn.cons rfl (fun K hK=> ?_) AllReadyIn.nil
      go_simp
      refine⟨trivial,?_⟩
      refine(callsIn_wide.2 (String_own bb bb (Str.joined pre) _ HA.out (by show bb≤W.heap.size;omega))).mono ?_
      rintro e w7 ⟨rfl,_,hb7,ho7⟩
      have hc7:w7.cell? ⟨h0,0,none⟩=some (.int .i64 (n:Int)):=(hb7.cell (p:=⟨h0,0,none⟩) (by dsimp only;omega)).trans hcd
      dsimp only
      refine hK _ _ ?_
      clear hK K
      refine wpAnyIn_ready (rs:=[2]) (by kernel_rfl) (by simp) ?_
      refine AllReadyIn.cons rfl (fun K hK=> ?_) AllReadyIn.nil
      go_simp
      refine hK _ _ ?_
      clear hK K
      refine wpAnyIn_ready (rs:=[3]) (by kernel_rfl) (by simp) ?_
      refine AllReadyIn.cons rfl (fun K hK=> ?_) AllReadyIn.nil
      go_simp
      refine hK _ _ ?_
      clear hK K
      refine wpAnyIn_ready (rs:=[4]) (by kernel_rfl) (by simp) ?_
      refine AllReadyIn.cons rfl (fun K hK=> ?_) AllReadyIn.nil
      go_simp
      refine hK _ _ ?_
      clear hK K
      refine wpAnyIn_done (by kernel_rfl) ?_ _
      gi_wp2
      refine⟨by simp,.inl ⟨_,_,rfl,run_takeDeferred (ho7 _ _ HK.out (by simp) (by simp)),?_⟩⟩
      refine⟨.tuple #[.string (strOf (Str.keys F (bytesOf c) n)),.int .i64 0],by simp [results,Tryz.f234,go_sem],?_⟩
      refine⟨rfl,?_⟩
      rw [hh0]
      exact((Hkw.out.drew.trans ⟨hb7.os,hb7.tape,hb7.output,hb7.size,fun k hk _=>hb7.block k (by omega)⟩)).putObj (fun _=>by omega) _
   case body=>
    intro lp pre x rest W hxs hz hi
    have hxs16:x.size=16:=Str.blocks_size HFl.out (bytesOf c) ((n+15) / 16) x (by rw [hxs];simp)
    dsimp only [Str.encs]
    clear hbx hct hfz
    gi_wp2
    (rw [Oper.semAt_eq _ _ _ (fun c h=>by cases h)];go_simp)
    gi_wp2
    refine⟨Keep.refl _ _,fun W3 hk hzz=> ?_⟩
    have Hi3:=Lib.hid (hi.keep hk (by omega) (by omega) (by omega))
    clear hi hk
    gi_wp2
    (rw [Oper.semAt_eq _ _ _ (fun c h=>by cases h)];go_simp)
    gi_wp2
    refine⟨trivial,?_⟩
    refine CallsIn.inRound lp ((callsIn_wide.2 (WriteString_own bb (bb+5) (Str.joined pre) x W3 Hi3.out.1 (by have:=Hi3.out.2.1;omega) (by omega))).mono ?_)
    rintro e w6 ⟨rfl,hA6,hk6⟩
    have hn6:w6.cell? ⟨h0,0,none⟩=some (.int .i64 (n:Int)):=hk6.cell (p:=⟨h0,0,none⟩) (by dsimp only;omega) Hi3.out.2.2.1
    have Hw6:Hid (Keep (fun k=>k<h0) w w6):=Lib.hid (Hi3.out.2.2.2.trans (hk6.mono fun k hk _=>by omega))
    have Hk6:=Lib.hid hk6
    have HA6:=Lib.hid hA6
    clear hk6 hA6 Hi3
    have hmix:Tryz.prog.follows .mixedOrders=true:=by kernel_rfl
    have HAd:=Lib.hid (show Bd.At bb (bb+5) (Str.joined pre++x.data.toList) w6.drew from HA6.out.keep (S:=fun _=>True) ((Keep.refl _ _).drew) trivial (fun _ _=>trivial))
    have hnd:w6.drew.cell? ⟨h0,0,none⟩=some (.int .i64 (n:Int)):=hn6
    gi_wp2
    refine wpIn_region_any hmix ?_
    change wpAnyIn _ _ _ _ _ _ _ _ _ (World.drew _)
    refine wpAnyIn_ready (rs:=[0,1]) (by kernel_rfl) (by simp) ?_
    refine AllReadyIn.cons rfl (fun K hK=> ?_) (AllReadyIn.cons rfl (fun K hK=> ?_) AllReadyIn.nil)
    · skip
      go_simp
      (rw [Oper.semAt_eq _ _ _ (fun c h=>by cases h)];go_simp)
      refine⟨trivial,?_⟩
      refine CallsIn.inRound lp ((callsIn_wide.2 (Len_own bb (bb+5) _ _ HAd.out)).mono ?_)
      rintro e w7 ⟨rfl,rfl⟩
      dsimp only
      refine hK _ _ ?_
      clear hK K
      refine wpAnyIn_ready (rs:=[1]) (by kernel_rfl) (by simp) ?_
      refine AllReadyIn.cons rfl (fun K hK=> ?_) AllReadyIn.nil
      go_simp
      (rw [Oper.semAt_eq _ _ _ (fun c h=>by cases h)];go_simp)
      refine hK _ _ ?_
      clear hK K
      refine wpAnyIn_ready (rs:=[2]) (by kernel_rfl) (by simp) ?_
      refine AllReadyIn.cons rfl (fun K hK=> ?_) AllReadyIn.nil
      go_simp
      (rw [Oper.semAt_eq _ _ _ (fun c h=>by cases h)];go_simp)
      refine hK _ _ ?_
      clear hK K
      refine wpAnyIn_done (by kernel_rfl) ?_ _
      have hkr:Keep (fun k=>¬ (k=bb∨bb+5≤k)) W3 w6.drew:=(Hk6.out.mono fun k hk _=>by omega).drew
      have hlen:(Str.joined pre++x.data.toList).length=(Str.joined pre).length+16:=by rw [List.length_append];congr 1
      gi_wp2
      · refine⟨hkr,rfl,?_⟩
        unfold KeysEnd
        rw [Str.joined_append,Str.joined_one,hlen]
        exact⟨HAd.out,by omega,hnd,Hw6.out.drew⟩
      · refine⟨hkr,?_⟩
        unfold KeysAt
        rw [Str.joined_append,Str.joined_one,hlen]
        exact⟨HAd.out,by omega,hnd,Hw6.out.drew⟩
    · skip
      go_simp
      (rw [Oper.semAt_eq _ _ _ (fun c h=>by cases h)];go_simp)
      refine hK _ _ ?_
      clear hK K
      refine wpAnyIn_ready (rs:=[0]) (by kernel_rfl) (by simp) ?_
      refine AllReadyIn.cons rfl (fun K hK=> ?_) AllReadyIn.nil
      go_simp
      (rw [Oper.semAt_eq _ _ _ (fun c h=>by cases h)];go_simp)
      refine⟨trivial,?_⟩
      refine CallsIn.inRound lp ((callsIn_wide.2 (Len_own bb (bb+5) _ _ HAd.out)).mono ?_)
      rintro e w7 ⟨rfl,rfl⟩
      dsimp only
      refine hK _ _ ?_
      clear hK K
      refine wpAnyIn_ready (rs:=[2]) (by kernel_rfl) (by simp) ?_
      refine AllReadyIn.cons rfl (fun K hK=> ?_) AllReadyIn.nil
      go_simp
      (rw [Oper.semAt_eq _ _ _ (fun c h=>by cases h)];go_simp)
      refine hK _ _ ?_
      clear hK K
      refine wpAnyIn_done (by kernel_rfl) ?_ _
      have hkr:Keep (fun k=>¬ (k=bb∨bb+5≤k)) W3 w6.drew:=(Hk6.out.mono fun k hk _=>by omega).drew
      have hlen:(Str.joined pre++x.data.toList).length=(Str.joined pre).length+16:=by rw [List.length_append];congr 1
      gi_wp2
      · refine⟨hkr,rfl,?_⟩
        unfold KeysEnd
        rw [Str.joined_append,Str.joined_one,hlen]
        exact⟨HAd.out,by omega,hnd,Hw6.out.drew⟩
      · refine⟨hkr,?_⟩
        unfold KeysAt
        rw [Str.joined_append,Str.joined_one,hlen]
        exact⟨HAd.out,by omega,hnd,Hw6.out.drew⟩
end Go.Proofs.YtpnbkfboneabaaaGreat
