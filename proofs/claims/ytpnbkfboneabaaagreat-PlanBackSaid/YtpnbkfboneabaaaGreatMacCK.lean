import Derived.Test.YtpnbkfboneabaaaGreatMacBK
import Derived.Test.YtpnbkfboneabaaaGreatStrGK
set_option maxRecDepth 100000
set_option maxHeartbeats 4000000
namespace Go.Proofs.YtpnbkfboneabaaaGreat
open Go.RowKit
def Mac.many (n:Nat):Nat:=(n+31) / 32+1
def Mac.derive [Sha.Words] (key name:ByteArray) (n:Nat):ByteArray:=(⟨(Str.joined (Mac.parts key name (Mac.many n))).toArray⟩:ByteArray).extract 0 n
theorem Mac.joined_length {pre:List ByteArray} (h:∀ x∈pre,x.size=32):(Str.joined pre).length=32*pre.length:=by
 induction pre with
 | nil=>rfl
 | cons a pre ih=>
   have h1:a.data.toList.length=32:=h a (by simp)
   have h2:=ih fun x hx=>h x (by simp [hx])
   rw [show a::pre=[a]++pre from rfl,Str.joined_append,List.length_append,Str.joined_one,h1,h2]
   simp;omega
theorem Mac.derive_size [Sha.Words] (key name:ByteArray) (n:Nat):(Mac.derive key name n).size=n:=by
 unfold Mac.derive
 rw [ByteArray.size_extract]
 show min n (Str.joined _).toArray.size-0=n
 rw [List.size_toArray,Mac.joined_length (Mac.parts_size key name _),Mac.parts_length,Mac.many]
 omega
theorem Mac.derive_take [Sha.Words] {key name:ByteArray} {n:Nat} {pre suf:List ByteArray} (h:pre++suf=Mac.parts key name (Mac.many n)) (hn:n≤(Str.joined pre).length):
 (⟨(Str.joined pre).toArray⟩:ByteArray).extract 0 n=Mac.derive key name n:=by
 unfold Mac.derive
 rw [← h,Str.joined_append]
 apply ByteArray.ext
 rw [ByteArray.data_extract,ByteArray.data_extract]
 apply Array.toList_inj.1
 simp only [Array.toList_extract,List.extract_eq_take_drop,Nat.sub_zero,List.drop_zero]
 rw [List.take_append_of_le_length hn]
def DerAt (bb B h0 n:Nat) (w0:World) (pre:List ByteArray) (W:World):Prop:=
 Bd.At bb B (Str.joined pre) W∧((Str.joined pre).length=32*pre.length∧32*pre.length<n+32)∧W.cell? ⟨h0,0,none⟩=some (.int .i64 (n:Int))∧Keep (fun k=>k<h0) w0 W
def DerEnd (bb B h0 n:Nat) (w0:World) (pre:List ByteArray) (W:World):Prop:=
 ∃ p q,pre=p++q∧Bd.At bb B (Str.joined p) W∧n≤(Str.joined p).length∧W.cell? ⟨h0,0,none⟩=some (.int .i64 (n:Int))∧Keep (fun k=>k<h0) w0 W
theorem DerAt.keep {bb B h0 n:Nat} {w0 W W':World} {pre:List ByteArray} {S:Nat→Prop} (h:DerAt bb B h0 n w0 pre W) (hk:Keep S W W') (hb:S bb) (hB:∀ k,B≤k→S k) (hl:∀ k,k≤h0→S k):DerAt bb B h0 n w0 pre W':=
 ⟨h.1.keep hk hb hB,h.2.1,hk.cell (p:=⟨h0,0,none⟩) (hl _ (Nat.le_refl _)) h.2.2.1,h.2.2.2.trans (hk.mono fun k hk' _=>hl k (Nat.le_of_lt hk'))⟩
theorem DerEnd.keep {bb B h0 n:Nat} {w0 W W':World} {pre:List ByteArray} {S:Nat→Prop} (h:DerEnd bb B h0 n w0 pre W) (hk:Keep S W W') (hb:S bb) (hB:∀ k,B≤k→S k) (hl:∀ k,k≤h0→S k):DerEnd bb B h0 n w0 pre W':=by
 obtain⟨p,q,e,h1,h2,h3,h4⟩:=h
 exact⟨p,q,e,h1.keep hk hb hB,h2,hk.cell (p:=⟨h0,0,none⟩) (hl _ (Nat.le_refl _)) h3,h4.trans (hk.mono fun k hk' _=>hl k (Nat.le_of_lt hk'))⟩
theorem Derive_any [Sha.Words] (key name:ByteArray) (hks:key.size≤64) (hns:name.size≤1000) (n:Nat) (hn:n≤4096) (w:World) (hR:Sha.RoundIn w):
 Calls Tryz.prog 199 #[.string key,.string name,.int .i64 (n:Int)] w fun e w'=>e= .returned (.tuple #[.string (Mac.derive key name n),.int .i64 0])∧Keep (fun k=>k<w.heap.size) w w':=by
 have h0p:=hR.pos
 have HRd:=Lib.hid hR
 clear hR
 have t1:¬ (1000:Int)<(key.size:Int):=by omega
 have t2:¬ (1000:Int)<(name.size:Int):=by omega
 have t3:¬ (4096:Int)<(n:Int):=by omega
 refine(callsIn_wide (n:=9)).1 ?_
 refine callsIn_of_wp_marks Tryz.func199 rfl trivial ?_ rfl
 simp only [Tryz.ntmps199,List.size_toArray,List.length_cons,List.length_nil,Nat.reduceAdd,Nat.reduceSub,Array.replicate_succ,Array.replicate_zero,List.push_toArray,List.append_toArray,List.nil_append,List.cons_append]
 gi_wp2_with (refine⟨trivial,?_⟩;gi_at_call 211;fail)
 refine⟨trivial,?_⟩
 refine(callsIn_wide.2 (parts_any key name _)).mono ?_
 rintro e w2 ⟨rfl,hw2⟩
 obtain⟨h0,hh0⟩:∃ h0,w.heap.size=h0:=⟨_,rfl⟩
 have hz2:w2.heap.size=h0+4:=by rw [hw2,← hh0];simp
 have hk02:Keep (fun _=>True) w w2:=by rw [hw2];exact((((Keep.refl _ _).alloc _).alloc _).alloc _).alloc _
 have hn1:w2.cell? ⟨h0,0,none⟩=some (.int .i64 (n:Int)):=by rw [hw2,← hh0];go_simp
 have hbx:w2.cell? ⟨h0+2,0,none⟩=some (.string key):=by rw [hw2,← hh0];go_simp
 have hct:w2.cell? ⟨h0+3,0,none⟩=some (.string name):=by rw [hw2,← hh0];go_simp
 have hbd:Row w2 (h0+1) 271 #[.pointer none,.slice none 0 0]:=by
  have h:=((Row.new (w.alloc (.cells #[.int .i64 (n:Int)] 3)) 271 #[.pointer none,.slice none 0 0]).alloc (.cells #[.string key] 9)).alloc (.cells #[.string name] 9)
  rw [hw2,← hh0]
  rwa [World.size_alloc] at h
 have hat:DerAt (h0+1) (h0+6) h0 n w [] w2:=
  ⟨⟨by omega,_,_,.inl rfl,hbd,rfl,.inl ⟨rfl,rfl⟩⟩,⟨rfl,by simp⟩,hn1,hk02.mono fun _ _ _=>trivial⟩
 have hR2:=HRd.out.keep hk02 trivial
 have e1:((w.alloc (.cells #[.int .i64 (n:Int)] 3)).alloc (.cells #[.pointer none,.slice none 0 0] 271)).heap.size=h0+2:=by rw [World.size_alloc,World.size_alloc,hh0]
 rw [e1]
 rw [hh0] at h0p
 have Hat:=Lib.hid hat
 have HR2:=Lib.hid hR2
 clear hat hR2 hbd hw2 hn1 hk02 e1 HRd
 gi_wp2
 refine wp_rangeE (n:=9) (gf:=226) (lb:=#[.pointer (some ⟨h0+2,0,none⟩),.pointer (some ⟨h0+2+1,0,none⟩)]) rfl
  (enters_of Tryz.func226 (by kernel_rfl) rfl)
  (parts1_any (h0+2) (h0+3) (Mac.many n) key name hks hns (by unfold Mac.many;omega) (fun k=>k=0∨k=h0+2∨k=h0+3) (.inl rfl) (.inr (.inl rfl)) (.inr (.inr rfl)) w2 hbx hct HR2.out)
  (fun _ h=>h.elim) (by omega) (fun _=>rfl) (fun k=>k=h0+1∨h0+6≤k) (by omega) (DerAt (h0+1) (h0+6) h0 n w) (fun c pre W=>c= .exit 0∧DerEnd (h0+1) (h0+6) h0 n w pre W)
  (fun s A B hs hk=>hs.keep hk ⟨id,by omega⟩ (fun k hk=>⟨id,by omega⟩) (fun k hk=>⟨id,by omega⟩)) (fun c s A B hs hk=>⟨hs.1,hs.2.keep hk ⟨id,by omega⟩ (fun k hk=>⟨id,by omega⟩) (fun k hk=>⟨id,by omega⟩)⟩) Hat.out ?hend ?body ?stop
 case hend=>
  intro W h
  have h1:=h.2.1.2
  rw [Mac.parts_length] at h1
  unfold Mac.many at h1
  omega
 case stop=>
  rintro c' pre suf W hps ⟨rfl,p,q,rfl,hA,hle,hcn,hkw⟩ hz hK
  have hmix:Tryz.prog.follows .mixedOrders=true:=by kernel_rfl
  have hsl:∀ W,(Instr.slice 9 (.string ⟨(Str.joined p).toArray⟩) none (some (.int .i64 (n:Int))) none).run Tryz.prog W= .ok (.string (Mac.derive key name n)) W:=fun W=>by
   rw [sl_hi (⟨(Str.joined p).toArray⟩:ByteArray) (n:Int) n rfl (show n≤(Str.joined p).toArray.size by simpa using hle) W,Mac.derive_take (by rw [← List.append_assoc];exact hps) hle]
  have hcd:W.drew.cell? ⟨h0,0,none⟩=some (.int .i64 (n:Int)):=hcn
  have HA:=Lib.hid (show Lib.IsBuilderF 271 5 (h0+1) (h0+1) (Lib.byteCells (Str.joined p)) W.drew from(hA.keep (S:=fun _=>True) ((Keep.refl _ _).drew) trivial (fun _ _=>trivial)).builder)
  have Hkw:=Lib.hid hkw
  rw [hz2] at hK
  have HK:=Lib.hid (show W.drew.heap[h0+4]? =_ from hK)
  clear hA hle hkw hbx hct Hat HR2 hK
  gi_wp2
  refine wpIn_region_any hmix ?_
  change wpAnyIn _ _ _ _ _ _ _ _ _ (World.drew _)
  refine wpAnyIn_ready (rs:=[0,1]) (by kernel_rfl) (by simp) ?_
  refine AllReadyIn.cons rfl (fun K hK=> ?_) (AllReadyIn.cons rfl (fun K hK=> ?_) AllReadyIn.nil)
  · skip
    go_simp
    refine⟨trivial,?_⟩
    refine(callsIn_wide.2 (String_own (h0+1) (h0+1) (Str.joined p) _ HA.out (by show h0+1≤W.heap.size;omega))).mono ?_
    rintro e w7 ⟨rfl,_,hb7,ho7⟩
    have hc7:w7.cell? ⟨h0,0,none⟩=some (.int .i64 (n:Int)):=(hb7.cell (p:=⟨h0,0,none⟩) (by dsimp only;omega)).trans hcd
    dsimp only
    refine hK _ _ ?_
    clear hK K
    refine wpAnyIn_ready (rs:=[1]) (by kernel_rfl) (by simp) ?_
    refine AllReadyIn.cons rfl (fun K hK=> ?_) AllReadyIn.nil
    go_simp
    refine hK _ _ ?_
    clear hK K
    refine wpAnyIn_ready (rs:=[2]) (by kernel_rfl) (by simp) ?_
    refine AllReadyIn.cons rfl (fun K hK=> ?_) AllReadyIn.nil
    go_simp
    refine hK _ _ ?_
    clear hK K
    refine wpAnyIn_ready (rs:=[3]) (by kernel_rfl) (by simp) ?_
    refine AllReadyIn.cons rfl (fun K hK=> ?_) AllReadyIn.nil
    go_simp
    refine hK _ _ ?_
    clear hK K
    refine wpAnyIn_ready (rs:=[4]) (by kernel_rfl) (by simp) ?_
    refine AllReadyIn.cons rfl (fun K hK=> ?_) AllReadyIn.nil
    go_simp
    refine hK _ _ ?_
    clear hK K
    refine wpAnyIn_done (by kernel_rfl) ?_ _
    gi_wp2
    refine⟨by simp,.inl ⟨_,_,rfl,run_takeDeferred (ho7 _ _ HK.out (by simp) (by simp)),?_⟩⟩
    refine⟨.tuple #[.string (Mac.derive key name n),.int .i64 0],by simp [results,Tryz.f199,go_sem],?_⟩
    refine⟨rfl,?_⟩
    rw [hh0]
    exact((Hkw.out.drew.trans ⟨hb7.os,hb7.tape,hb7.output,hb7.size,fun k hk _=>hb7.block k (by omega)⟩)).putObj (fun _=>by omega) _
  · skip
    go_simp
    refine hK _ _ ?_
    clear hK K
    refine wpAnyIn_ready (rs:=[0]) (by kernel_rfl) (by simp) ?_
    refine AllReadyIn.cons rfl (fun K hK=> ?_) AllReadyIn.nil
    go_simp
    refine⟨trivial,?_⟩
    refine(callsIn_wide.2 (String_own (h0+1) (h0+1) (Str.joined p) _ HA.out (by show h0+1≤W.heap.size;omega))).mono ?_
    rintro e w7 ⟨rfl,_,hb7,ho7⟩
    have hc7:w7.cell? ⟨h0,0,none⟩=some (.int .i64 (n:Int)):=(hb7.cell (p:=⟨h0,0,none⟩) (by dsimp only;omega)).trans hcd
    dsimp only
    refine hK _ _ ?_
    clear hK K
    refine wpAnyIn_ready (rs:=[2]) (by kernel_rfl) (by simp) ?_
    refine AllReadyIn.cons rfl (fun K hK=> ?_) AllReadyIn.nil
    go_simp
    refine hK _ _ ?_
    clear hK K
    refine wpAnyIn_ready (rs:=[3]) (by kernel_rfl) (by simp) ?_
    refine AllReadyIn.cons rfl (fun K hK=> ?_) AllReadyIn.nil
    go_simp
    refine hK _ _ ?_
    clear hK K
    refine wpAnyIn_ready (rs:=[4]) (by kernel_rfl) (by simp) ?_
    refine AllReadyIn.cons rfl (fun K hK=> ?_) AllReadyIn.nil
    go_simp
    refine hK _ _ ?_
    clear hK K
    refine wpAnyIn_done (by kernel_rfl) ?_ _
    gi_wp2
    refine⟨by simp,.inl ⟨_,_,rfl,run_takeDeferred (ho7 _ _ HK.out (by simp) (by simp)),?_⟩⟩
    refine⟨.tuple #[.string (Mac.derive key name n),.int .i64 0],by simp [results,Tryz.f199,go_sem],?_⟩
    refine⟨rfl,?_⟩
    rw [hh0]
    exact((Hkw.out.drew.trans ⟨hb7.os,hb7.tape,hb7.output,hb7.size,fun k hk _=>hb7.block k (by omega)⟩)).putObj (fun _=>by omega) _
 case body=>
  intro lp pre x rest W hxs hz hi
  have hxs32:x.size=32:=Mac.parts_size key name _ x (by rw [hxs];simp)
  dsimp only [Str.encs]
  clear hbx hct
  gi_wp2
  (rw [Oper.semAt_eq _ _ _ (fun c h=>by cases h)];go_simp)
  gi_wp2
  refine⟨Keep.refl _ _,fun W3 hk hzz=> ?_⟩
  have Hi3:=Lib.hid (hi.keep hk (by omega) (by omega) (by omega))
  clear hi hk
  have hmix:Tryz.prog.follows .mixedOrders=true:=by kernel_rfl
  have HL:=Lib.hid Hi3.out.2.1.1
  have hLb:=Hi3.out.2.1.2
  have HAd:=Lib.hid (show Bd.At (h0+1) (h0+6) (Str.joined pre) W3.drew from Hi3.out.1.keep (S:=fun _=>True) ((Keep.refl _ _).drew) trivial (fun _ _=>trivial))
  have hnd:W3.drew.cell? ⟨h0,0,none⟩=some (.int .i64 (n:Int)):=Hi3.out.2.2.1
  have HKd:=Lib.hid Hi3.out.2.2.2.drew
  have hJb:(Str.joined pre).length≤5000:=by rw [HL.out];omega
  clear Hi3
  gi_wp2
  refine wpIn_region_any hmix ?_
  change wpAnyIn _ _ _ _ _ _ _ _ _ (World.drew _)
  refine wpAnyIn_ready (rs:=[0,1]) (by kernel_rfl) (by simp) ?_
  refine AllReadyIn.cons rfl (fun K hK=> ?_) (AllReadyIn.cons rfl (fun K hK=> ?_) AllReadyIn.nil)
  · skip
    go_simp
    (rw [Oper.semAt_eq _ _ _ (fun c h=>by cases h)];go_simp)
    refine⟨trivial,?_⟩
    refine CallsIn.inRound lp ((callsIn_wide.2 (Len_own (h0+1) (h0+6) _ _ HAd.out)).mono ?_)
    rintro e w7 ⟨rfl,rfl⟩
    dsimp only
    refine hK _ _ ?_
    clear hK K
    refine wpAnyIn_ready (rs:=[1]) (by kernel_rfl) (by simp) ?_
    refine AllReadyIn.cons rfl (fun K hK=> ?_) AllReadyIn.nil
    go_simp
    (rw [Oper.semAt_eq _ _ _ (fun c h=>by cases h)];go_simp)
    refine hK _ _ ?_
    clear hK K
    refine wpAnyIn_ready (rs:=[2]) (by kernel_rfl) (by simp) ?_
    refine AllReadyIn.cons rfl (fun K hK=> ?_) AllReadyIn.nil
    go_simp
    (rw [Oper.semAt_eq _ _ _ (fun c h=>by cases h)];go_simp)
    refine hK _ _ ?_
    clear hK K
    refine wpAnyIn_done (by kernel_rfl) ?_ _
    gi_wp2
    · refine⟨(Keep.refl _ _).drew,rfl,pre,[x],rfl,HAd.out,by omega,hnd,HKd.out⟩
    · (rw [Oper.semAt_eq _ _ _ (fun c h=>by cases h)];go_simp)
      gi_wp2
      refine⟨trivial,?_⟩
      refine CallsIn.inRound lp ((callsIn_wide.2 (WriteString_own (h0+1) (h0+6) (Str.joined pre) x _ HAd.out (by omega) (by show h0+6≤W3.heap.size;omega))).mono ?_)
      rintro e w6 ⟨rfl,hA6,hk6⟩
      have hn6:w6.cell? ⟨h0,0,none⟩=some (.int .i64 (n:Int)):=hk6.cell (p:=⟨h0,0,none⟩) (by dsimp only;omega) hnd
      have Hw6:Hid (Keep (fun k=>k<h0) w w6):=Lib.hid (HKd.out.trans (hk6.mono fun k hk _=>by omega))
      have Hk6:=Lib.hid hk6
      have HA6:=Lib.hid hA6
      clear hk6 hA6
      have hlen:(Str.joined pre++x.data.toList).length=(Str.joined pre).length+32:=by rw [List.length_append];congr 1
      gi_wp2
      refine⟨((Keep.refl _ _).drew).trans (Hk6.out.mono fun k hk _=>by omega),?_⟩
      unfold DerAt
      rw [Str.joined_append,Str.joined_one,hlen]
      exact⟨HA6.out,⟨by rw [List.length_append,HL.out];rfl,by rw [List.length_append];show 32*(pre.length+1)<n+32;have:=HL.out;omega⟩,hn6,Hw6.out⟩
  · skip
    go_simp
    (rw [Oper.semAt_eq _ _ _ (fun c h=>by cases h)];go_simp)
    refine hK _ _ ?_
    clear hK K
    refine wpAnyIn_ready (rs:=[0]) (by kernel_rfl) (by simp) ?_
    refine AllReadyIn.cons rfl (fun K hK=> ?_) AllReadyIn.nil
    go_simp
    (rw [Oper.semAt_eq _ _ _ (fun c h=>by cases h)];go_simp)
    refine⟨trivial,?_⟩
    refine CallsIn.inRound lp ((callsIn_wide.2 (Len_own (h0+1) (h0+6) _ _ HAd.out)).mono ?_)
    rintro e w7 ⟨rfl,rfl⟩
    dsimp only
    refine hK _ _ ?_
    clear hK K
    refine wpAnyIn_ready (rs:=[2]) (by kernel_rfl) (by simp) ?_
    refine AllReadyIn.cons rfl (fun K hK=> ?_) AllReadyIn.nil
    go_simp
    (rw [Oper.semAt_eq _ _ _ (fun c h=>by cases h)];go_simp)
    refine hK _ _ ?_
    clear hK K
    refine wpAnyIn_done (by kernel_rfl) ?_ _
    gi_wp2
    · refine⟨(Keep.refl _ _).drew,rfl,pre,[x],rfl,HAd.out,by omega,hnd,HKd.out⟩
    · (rw [Oper.semAt_eq _ _ _ (fun c h=>by cases h)];go_simp)
      gi_wp2
      refine⟨trivial,?_⟩
      refine CallsIn.inRound lp ((callsIn_wide.2 (WriteString_own (h0+1) (h0+6) (Str.joined pre) x _ HAd.out (by omega) (by show h0+6≤W3.heap.size;omega))).mono ?_)
      rintro e w6 ⟨rfl,hA6,hk6⟩
      have hn6:w6.cell? ⟨h0,0,none⟩=some (.int .i64 (n:Int)):=hk6.cell (p:=⟨h0,0,none⟩) (by dsimp only;omega) hnd
      have Hw6:Hid (Keep (fun k=>k<h0) w w6):=Lib.hid (HKd.out.trans (hk6.mono fun k hk _=>by omega))
      have Hk6:=Lib.hid hk6
      have HA6:=Lib.hid hA6
      clear hk6 hA6
      have hlen:(Str.joined pre++x.data.toList).length=(Str.joined pre).length+32:=by rw [List.length_append];congr 1
      gi_wp2
      refine⟨((Keep.refl _ _).drew).trans (Hk6.out.mono fun k hk _=>by omega),?_⟩
      unfold DerAt
      rw [Str.joined_append,Str.joined_one,hlen]
      exact⟨HA6.out,⟨by rw [List.length_append,HL.out];rfl,by rw [List.length_append];show 32*(pre.length+1)<n+32;have:=HL.out;omega⟩,hn6,Hw6.out⟩
end Go.Proofs.YtpnbkfboneabaaaGreat
