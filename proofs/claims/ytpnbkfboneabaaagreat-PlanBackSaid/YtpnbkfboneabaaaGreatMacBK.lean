import Derived.Test.YtpnbkfboneabaaaGreatMacAK
import Derived.Test.YtpnbkfboneabaaaGreatStrFK
set_option maxRecDepth 100000
set_option maxHeartbeats 2000000
namespace Go.Proofs.YtpnbkfboneabaaaGreat
open Go.RowKit
def Mac.part [Sha.Words] (key name:ByteArray):Nat→ByteArray
 | 0=>⟨#[]⟩
 | k+1=>Mac.mac key (Mac.part key name k++name++strOf [(k+1)%256])
def Mac.parts [Sha.Words] (key name:ByteArray) (N:Nat):List ByteArray:=(List.range N).map fun i=>Mac.part key name (i+1)
theorem Mac.parts_length [Sha.Words] (key name:ByteArray) (N:Nat):(Mac.parts key name N).length=N:=by simp [Mac.parts]
theorem Mac.part_size [Sha.Words] (key name:ByteArray) (k:Nat):(Mac.part key name k).size≤32:=by
 cases k with
 | zero=>exact Nat.zero_le _
 | succ k=>exact Nat.le_of_eq (Mac.mac_size _ _)
theorem Mac.parts_size [Sha.Words] (key name:ByteArray) (N:Nat):∀ x∈Mac.parts key name N,x.size=32:=by
 intro x hx
 obtain⟨i,_,rfl⟩:=List.mem_map.1 hx
 exact Mac.mac_size _ _
theorem Mac.parts_at [Sha.Words] (key name:ByteArray) {N i:Nat} (hi:i<N):Mac.parts key name N=(Mac.parts key name N).take i++Mac.part key name (i+1)::(Mac.parts key name N).drop (i+1):=by
 have h:i<(Mac.parts key name N).length:=by rw [Mac.parts_length];exact hi
 have e:(Mac.parts key name N)[i]=Mac.part key name (i+1):=by simp [Mac.parts]
 rw [← e,List.getElem_cons_drop,List.take_append_drop]
theorem Mac.parts_next [Sha.Words] (key name:ByteArray) {N i:Nat} (hi:i<N):(Mac.parts key name N).take (i+1)=(Mac.parts key name N).take i++[Mac.part key name (i+1)]:=by
 have h:i<(Mac.parts key name N).length:=by rw [Mac.parts_length];exact hi
 have e:(Mac.parts key name N)[i]=Mac.part key name (i+1):=by simp [Mac.parts]
 rw [← e,List.take_append_getElem h]
theorem parts_any (key name:ByteArray) (w:World):
 Calls Tryz.prog 211 #[.string key,.string name] w fun e w'=>
  e= .returned (.func (.func 226) #[] #[.pointer (some ⟨w.heap.size,0,none⟩),.pointer (some ⟨w.heap.size+1,0,none⟩)])∧
  w'=(w.alloc (.cells #[.string key] 9)).alloc (.cells #[.string name] 9):=by
 have hmf:∀(fn:Fn) (first cap:Array Value) (w:World),(Instr.makeFunc fn first cap).run Tryz.prog w= .ok (.func fn first cap) w:=fun _ _ _ _=>rfl
 go_enter Tryz.func211,Tryz.ntmps211
 go_wp2
 go_ret
 exact⟨rfl,rfl⟩
structure PartAt [Sha.Words] (J:List ByteArray→World→Prop) (bk bn N:Nat) (key name:ByteArray) (vl vi:Value) (wr:World):Prop where
 at_:∃ i,i≤N∧vi= .int .u8 ((i+1:Nat):Int)∧vl= .string (Mac.part key name i)∧J ((Mac.parts key name N).take i) wr
 box:wr.cell? ⟨bk,0,none⟩=some (.string key)
 nam:wr.cell? ⟨bn,0,none⟩=some (.string name)
 rnd:Sha.RoundIn wr
theorem parts1_any [Sha.Words] (bk bn N:Nat) (key name:ByteArray) (hks:key.size≤64) (hns:name.size≤1000) (hN:N≤200) (need:Nat→Prop) (hn0:need 0) (hnk:need bk) (hnn:need bn) (w:World)
 (hk:w.cell? ⟨bk,0,none⟩=some (.string key)) (hc:w.cell? ⟨bn,0,none⟩=some (.string name)) (hR:Sha.RoundIn w):
 SeqE Tryz.prog 226 #[.pointer (some ⟨bk,0,none⟩),.pointer (some ⟨bn,0,none⟩)] Str.encs (Mac.parts key name N) (fun _=>False) need w:=by
 intro lp J Jx W hW hz hJ hJx hend hY h0
 have hst:PartAt J bk bn N key name (.string ⟨#[]⟩) (.int .u8 1) W:=⟨⟨0,Nat.zero_le _,rfl,rfl,by rw [List.take_zero];exact h0⟩,hW.cell (p:=⟨bk,0,none⟩) hnk hk,hW.cell (p:=⟨bn,0,none⟩) hnn hc,hR.keep hW hn0⟩
 have Hst:=Lib.hid hst
 have Hend:=Lib.hid hend
 have HJ:=Lib.hid hJ
 clear hst hend hJ hJx h0 hk hc hW hR
 refine(callsIn_wide (n:=9)).1 ?_
 refine callsIn_of_wp Tryz.func226 rfl trivial ?_ rfl
 simp only [Tryz.ntmps226,List.size_toArray,List.length_cons,List.length_nil,Nat.reduceAdd,Nat.reduceSub,Array.replicate_succ,Array.replicate_zero,List.push_toArray,List.append_toArray,List.nil_append,List.cons_append]
 gi_wp2
 gi_loopw [4,5] (fun vl vi wr=>PartAt J bk bn N key name vl vi wr) (fun _ vi _=>300-(intOf vi).toNat)
 case atStart=>exact Hst.out
 case round=>
  clear Hst
  obtain⟨⟨i,hi,rfl,rfl,hj⟩,hbk,hbn,hrd⟩:=hrel
  have hlt:i<N:=by
   rcases Nat.lt_or_ge i N with h | h
   · exact h
   · rw [List.take_of_length_le (by rw [Mac.parts_length];omega)] at hj
     exact absurd hj (Hend.out _)
  have hnext:Mac.part key name (i+1)=Mac.mac key (Mac.part key name i++name++strOf [i+1]):=by rw [Mac.part,Nat.mod_eq_of_lt (by omega)]
  have hps:=Mac.part_size key name i
  have hparts:=Mac.parts_next key name hlt
  have hYat:=Mac.parts_at key name hlt
  obtain⟨L,hL⟩:∃ L,Mac.part key name i=L:=⟨_,rfl⟩
  obtain⟨L2,hL2⟩:∃ L2,Mac.part key name (i+1)=L2:=⟨_,rfl⟩
  rw [hL] at hps hnext ⊢
  rw [hL2] at hnext hparts hYat
  have hs1:(strOf [i+1]).size=1:=strOf_size _
  have hadd1:∀ W,(Op.stringOp .add L name).run Tryz.prog W= .ok (.string (L++name)) W:=fun W=>run_string_add_sum W _ _ (by omega)
  have hadd2:∀ W,(Op.stringOp .add (L++name) (strOf [i+1])).run Tryz.prog W= .ok (.string (L++name++strOf [i+1])) W:=fun W=>run_string_add_sum W _ _ (by rw [ByteArray.size_append];omega)
  have hcv:∀(g:Nat) (W:World),W.cell? ⟨g,0,none⟩=some (.int .u8 ((i+1:Nat):Int))→(convert 42 9 (.slice (some ⟨g,0,none⟩) 1 1)).run Tryz.prog W= .ok (.string (strOf [i+1])) W:=fun g W hW=>
   conv_string (P:=Tryz.prog) (src:=42) (dst:=9) Tryz.underlying42 Tryz.underlying5 Tryz.underlying9 g 0 1 [i+1] W (fun j hj=>by
    obtain rfl:j=0:=by simpa using hj
    exact hW) 1 rfl
  have hM:=fun w hR=>Mac_any key (L++name++strOf [i+1]) hks (by rw [ByteArray.size_append,ByteArray.size_append];omega) w hR
  rw [← hnext] at hM
  obtain⟨T,hT⟩:∃ T,L++name++strOf [i+1]=T:=⟨_,rfl⟩
  rw [hT] at hadd2 hM
  have Hj:=Lib.hid hj
  have Hrd:=Lib.hid hrd
  have HM:=Lib.hid hM
  have Hparts:=Lib.hid hparts
  have HYat:=Lib.hid hYat
  have h0p:=hrd.pos
  generalize hN1:(i+1:Nat)=n1 at*
  generalize strOf [n1]=S1 at*
  have HL2:=Lib.hid hL2
  clear hj hrd hM hT hnext hparts hYat hL hL2 hps
  have hmix:Tryz.prog.follows .mixedOrders=true:=by kernel_rfl
  gi_wp2
  refine⟨trivial,?_⟩
  refine(callsIn_wide.2 (HM.out _ (Hrd.out.keep ((Keep.refl (fun _=>True) _).alloc _) trivial))).mono ?_
  rintro e w3 ⟨rfl,hk3⟩
  have hk3':Keep (fun _=>True) wr w3:=((Keep.refl _ wr).alloc _).trans (hk3.mono fun k _ hl=>hl)
  have hbk3:=hk3'.cell (p:=⟨bk,0,none⟩) trivial hbk
  have hbn3:=hk3'.cell (p:=⟨bn,0,none⟩) trivial hbn
  have Hrd3:=Lib.hid (Hrd.out.keep hk3' trivial)
  have Hj3:=Lib.hid (HJ.out _ _ _ Hj.out (hk3'.mono fun _ _ _=>trivial))
  have hY1:=hY _ _ _ HYat.out w3 Hj3.out
  obtain⟨fn,tmps,assign,body,hy,hR⟩:=hY1
  dsimp only [Str.encs] at hy
  clear hk3 hk3' hbk hbn Hrd Hj HYat HM hadd1 hadd2 hcv
  gi_wp2
  refine(hR 8).mono ?_
  rintro e W3 (⟨rfl,hj3,hk4⟩ | ⟨rfl,hx3⟩)
  · have hbk4:=hk4.cell (p:=⟨bk,0,none⟩) hnk hbk3
    have hbn4:=hk4.cell (p:=⟨bn,0,none⟩) hnn hbn3
    have Hrd4:=Lib.hid (Hrd3.out.keep hk4 hn0)
    rw [← Hparts.out] at hj3
    have Hj4:=Lib.hid hj3
    clear hk4 hj3 hy hR Hrd3 Hj3
    gi_wp2
    refine⟨⟨⟨n1,by omega,by rw [Int.natCast_add];rfl,by rw [HL2.out],Hj4.out⟩,hbk4,hbn4,Hrd4.out⟩,?_⟩
    simp [intOf]
    omega
  · have Hx:=Lib.hid hx3
    gi_wp2
    refine bodyPost_ret (results_none rfl _ _ _) rfl ?_
    refine⟨⟨_,rfl⟩,.inr ⟨_,(Mac.parts key name N).drop n1,?_,Hx.out⟩⟩
    rw [← Hparts.out,List.take_append_drop]
end Go.Proofs.YtpnbkfboneabaaaGreat
