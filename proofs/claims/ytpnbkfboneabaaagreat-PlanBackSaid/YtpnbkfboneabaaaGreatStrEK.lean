import Derived.Test.YtpnbkfboneabaaaGreatGE
import Derived.Test.YtpnbkfboneabaaaGreatStrDK
import Derived.Test.YtpnbkfboneabaaaGreatGA
import Derived.OwnWalkIn
import Derived.TacticsInMore
import Derived.LoopNIn
import Derived.LoopIn
import Derived.Shelf.Abstract
import Derived.Shelf.RegionOpen
set_option maxRecDepth 100000
set_option maxHeartbeats 2000000
namespace Go.Proofs.YtpnbkfboneabaaaGreat
open Go.RowKit
def Str.Enc (t:ByteArray) (F:List Nat→List Nat):Prop:=∀(c:ByteArray),c.size=16→∀ w,Calls Tryz.prog 259 #[.string t,.string c] w fun e w'=>
    e= .returned (.tuple #[.string (strOf (F (bytesOf c))),.int .i64 0])∧Below w.heap.size w w'
def Str.block (F:List Nat→List Nat) (C:List Nat) (i:Nat):ByteArray:=strOf (F (Ctr.next C i))
def Str.blocks (F:List Nat→List Nat) (C:List Nat) (N:Nat):List ByteArray:=(List.range N).map (Str.block F C)
def Str.encs (x:ByteArray):Array Value:=#[.string x]
theorem Str.blocks_length (F:List Nat→List Nat) (C:List Nat) (N:Nat):(Str.blocks F C N).length=N:=by simp [Str.blocks]
theorem Str.blocks_at (F:List Nat→List Nat) (C:List Nat) {N i:Nat} (hi:i<N):Str.blocks F C N=(Str.blocks F C N).take i++Str.block F C i::(Str.blocks F C N).drop (i+1):=by
 have h:i<(Str.blocks F C N).length:=by rw [Str.blocks_length];exact hi
 have e:(Str.blocks F C N)[i]=Str.block F C i:=by simp [Str.blocks]
 rw [← e,List.getElem_cons_drop,List.take_append_drop]
theorem Str.blocks_next (F:List Nat→List Nat) (C:List Nat) {N i:Nat} (hi:i<N):(Str.blocks F C N).take (i+1)=(Str.blocks F C N).take i++[Str.block F C i]:=by
 have h:i<(Str.blocks F C N).length:=by rw [Str.blocks_length];exact hi
 have e:(Str.blocks F C N)[i]=Str.block F C i:=by simp [Str.blocks]
 rw [← e,List.take_append_getElem h]
theorem Ctr.next_length (c:List Nat) (n:Nat):(Ctr.next c n).length=16:=Ctr.ctr_length _
theorem Ctr.next_all (c:List Nat) (n:Nat):Bs.All (Ctr.next c n):=Ctr.ctr_all _
theorem Ctr.next_next (c:List Nat) (m n:Nat):Ctr.next (Ctr.next c m) n=Ctr.next c (m+n):=by
 refine Ctr.ctr_num (Ctr.ctr_length _) (Ctr.ctr_all _) ?_
 show Ctr.num (Ctr.ctr (Ctr.num (Ctr.ctr (Ctr.num c+m))+n))=_
 rw [Ctr.num_ctr,Ctr.num_ctr,Nat.mod_add_mod,Nat.add_assoc]
theorem Ctr.next_zero {c:List Nat} (hc:c.length=16) (ha:Bs.All c):Ctr.next c 0=c:=by
 refine(Ctr.ctr_num hc ha ?_).symm
 rw [Nat.add_zero,Nat.mod_eq_of_lt]
 have:=Ctr.num_lt _ ha.mem
 rwa [hc] at this
theorem least {P:Nat→Prop}:∀ k,P k→∃ k,P k∧∀ j,P j→k≤j:=by
 intro k
 induction k using Nat.strongRecOn with
 | _ k ih=>
   intro h
   by_cases hj:∃ j,j<k∧P j
   · obtain⟨j,hjk,hp⟩:=hj
     exact ih j hjk hp
   · exact⟨k,h,fun j hp=>Nat.le_of_not_lt fun hl=>hj ⟨j,hl,hp⟩⟩
open Classical in
noncomputable def leastOf (P:Nat→Prop):Nat:=if h:∃ k,P k then (least _ h.choose_spec).choose else 0
theorem leastOf_holds {P:Nat→Prop} {k:Nat} (h:P k):P (leastOf P):=by
 have h':∃ k,P k:=⟨k,h⟩
 rw [leastOf,dif_pos h']
 exact(least _ h'.choose_spec).choose_spec.1
theorem leastOf_le {P:Nat→Prop} {k:Nat} (h:P k):leastOf P≤k:=by
 have h':∃ k,P k:=⟨k,h⟩
 rw [leastOf,dif_pos h']
 exact(least _ h'.choose_spec).choose_spec.2 k h
structure BlkAt (J:List ByteArray→World→Prop) (b bk bc N:Nat) (t:ByteArray) (c3:Value) (F:List Nat→List Nat) (C:List Nat) (i:Nat) (wr:World):Prop where
 told:J ((Str.blocks F C N).take i) wr
 row:Row wr b 316 #[.string t,.int .u32 1,.int .i32 0,c3,.bool true]
 box:wr.cell? ⟨bk,0,none⟩=some (.pointer (some ⟨b,0,none⟩))
 cnt:wr.cell? ⟨bc,0,none⟩=some (.string (strOf (Ctr.next C i)))
 froz:wr.frozen? ⟨bc,0,none⟩=false
theorem BlkAt.below {J:List ByteArray→World→Prop} {b bk bc N:Nat} {t:ByteArray} {c3:Value} {F:List Nat→List Nat} {C:List Nat} {i:Nat} {wr W:World} (h:BlkAt J b bk bc N t c3 F C i wr) (hJ:Stable (fun k=>¬ k=bc) J) (hb:Below wr.heap.size wr W):BlkAt J b bk bc N t c3 F C i W:=
 ⟨hJ _ _ _ h.told ((Keep.below hb).mono fun _ _ _=>trivial),h.row.below hb h.row.lt,cell_below hb h.box,cell_below hb h.cnt,(frozen_below hb h.cnt).trans h.froz⟩
theorem BlkAt.drew {J:List ByteArray→World→Prop} {b bk bc N:Nat} {t:ByteArray} {c3:Value} {F:List Nat→List Nat} {C:List Nat} {i:Nat} {wr:World} (h:BlkAt J b bk bc N t c3 F C i wr) (hJ:Stable (fun k=>¬ k=bc) J):BlkAt J b bk bc N t c3 F C i wr.drew:=
 ⟨hJ _ _ _ h.told ((Keep.refl _ _).drew),h.row.drew,h.box,h.cnt,h.froz⟩
noncomputable def BlkLeft (J:List ByteArray→World→Prop) (b bk bc N:Nat) (t:ByteArray) (c3:Value) (F:List Nat→List Nat) (C:List Nat) (wr:World):Nat:=leastOf fun k=>∃ i,i+k=N∧BlkAt J b bk bc N t c3 F C i wr
theorem blocks1_any (b bk bc N:Nat) (t:ByteArray) (c3:Value) (F:List Nat→List Nat) (C:List Nat) (hC:C.length=16) (hCa:Bs.All C) (hE:Str.Enc t F) (need:Nat→Prop) (hnb:need b) (hnk:need bk) (hnc:need bc) (hcb:bc≠b) (hck:bc≠bk) (w:World)
 (hr:Row w b 316 #[.string t,.int .u32 1,.int .i32 0,c3,.bool true]) (hk:w.cell? ⟨bk,0,none⟩=some (.pointer (some ⟨b,0,none⟩)))
 (hc:w.cell? ⟨bc,0,none⟩=some (.string (strOf C))) (hf:w.frozen? ⟨bc,0,none⟩=false):
 SeqE Tryz.prog 258 #[.pointer (some ⟨bk,0,none⟩),.pointer (some ⟨bc,0,none⟩)] Str.encs (Str.blocks F C N) (fun k=>k=bc) need w:=by
 intro lp J Jx W hW hz hJ hJx hend hY h0
 have hst:BlkAt J b bk bc N t c3 F C 0 W:=⟨by rw [List.take_zero];exact h0,hr.keep hW hnb,hW.cell (p:=⟨bk,0,none⟩) hnk hk,by rw [Ctr.next_zero hC hCa];exact hW.cell (p:=⟨bc,0,none⟩) hnc hc,(hW.frozen (p:=⟨bc,0,none⟩) hnc hc).trans hf⟩
 have Hst:=Lib.hid hst
 have Hend:=Lib.hid hend
 have HJ:=Lib.hid hJ
 have HE:=Lib.hid hE
 clear hst hend hJ hJx h0 hr hk hc hf hW hE
 refine(callsIn_wide (n:=9)).1 ?_
 refine callsIn_of_wp Tryz.func258 rfl trivial ?_ rfl
 simp only [Tryz.ntmps258,List.size_toArray,List.length_cons,List.length_nil,Nat.reduceAdd,Nat.reduceSub,Array.replicate_succ,Array.replicate_zero,List.push_toArray,List.append_toArray,List.nil_append,List.cons_append]
 gi_wp2
 gi_loopw [4] (fun _ wr=>∃ i,i≤N∧BlkAt J b bk bc N t c3 F C i wr) (fun _ wr=>BlkLeft J b bk bc N t c3 F C wr)
 case atStart=>exact⟨0,Nat.zero_le _,Hst.out⟩
 case round=>
  clear Hst
  obtain⟨i,hi,hat,hm⟩:∃ i,i≤N∧BlkAt J b bk bc N t c3 F C i wr∧i+BlkLeft J b bk bc N t c3 F C wr=N:=by
   obtain⟨i,hi,hat⟩:=hrel
   obtain⟨i',h1,h2⟩:=leastOf_holds (P:=fun k=>∃ i,i+k=N∧BlkAt J b bk bc N t c3 F C i wr) (k:=N-i) ⟨i,by omega,hat⟩
   exact⟨i',by omega,h2,h1⟩
  clear hrel
  have hlt:i<N:=by
   rcases Nat.lt_or_ge i N with h | h
   · exact h
   · have h1:=hat.told
     rw [List.take_of_length_le (by rw [Str.blocks_length];omega)] at h1
     exact absurd h1 (Hend.out _)
  have Hat:=Lib.hid hat
  have hbx:=hat.box
  clear hat
  gi_wp2
  refine⟨trivial,?_⟩
  refine(callsIn_wide.2 (is_again b _ _ _ _ _ Hat.out.row)).mono ?_
  rintro e w2 ⟨rfl,hb2⟩
  have Hat2:=Lib.hid (Hat.out.below HJ.out hb2)
  have k2:=Hat2.out.box
  have q2:w2.cell? ⟨b,0,none⟩=some (.string t):=Hat2.out.row.cell 0
  have c2:=Hat2.out.cnt
  clear hb2 Hat hbx
  have hsz:(strOf (Ctr.next C i)).size=16:=by rw [strOf_size];exact Ctr.next_length _ _
  have hEc:=HE.out _ hsz
  rw [bytesOf_strOf (Ctr.next_all _ _)] at hEc
  have HEc:=Lib.hid hEc
  clear hEc
  have hmix:Tryz.prog.follows .mixedOrders=true:=by kernel_rfl
  gi_wp2
  gi_region_with_o (refine⟨trivial,?_⟩;gi_at_call 259;refine(callsIn_wide.2 (HEc.out _)).mono ?_;rintro e w3 ⟨rfl,hb3⟩)
  all_goals
   have Hat3:=Lib.hid (show BlkAt J b bk bc N t c3 F C i w3 by first | exact Hat2.out.below HJ.out hb3 | exact(Hat2.out.drew HJ.out).below HJ.out hb3)
   have hY1:=hY _ _ _ (Str.blocks_at F C hlt) w3 Hat3.out.told
   have Hnext:=Lib.hid (Str.blocks_next F C hlt)
   obtain⟨fn,tmps,assign,body,hy,hR⟩:=hY1
   dsimp only [Str.encs,Str.block] at hy
   clear hb3 Hat2 k2 q2 c2 HEc
   gi_wp2
   refine(hR 8).mono ?_
   rintro e W3 (⟨rfl,hj3,hk3⟩ | ⟨rfl,hx3⟩)
   · have Hat4:Hid (BlkAt J b bk bc N t c3 F C i w3∧Row W3 b 316 #[.string t,.int .u32 1,.int .i32 0,c3,.bool true]∧W3.cell? ⟨bk,0,none⟩=some (.pointer (some ⟨b,0,none⟩))∧J ((Str.blocks F C N).take (i+1)) W3):=
      Lib.hid ⟨Hat3.out,Hat3.out.row.keep hk3 hnb,hk3.cell (p:=⟨bk,0,none⟩) hnk Hat3.out.box,by rw [Hnext.out];exact hj3⟩
     have c4:=hk3.cell (p:=⟨bc,0,none⟩) hnc Hat3.out.cnt
     have f4:=(hk3.frozen (p:=⟨bc,0,none⟩) hnc Hat3.out.cnt).trans Hat3.out.froz
     have HN:=Lib.hid (Next_any (strOf (Ctr.next C i)) hsz 1 (by decide) W3)
     clear hj3 hk3 hy hR Hat3
     gi_wp2
     refine⟨trivial,?_⟩
     refine(callsIn_wide.2 HN.out).mono ?_
     rintro e w5 ⟨rfl,hb5⟩
     rw [bytesOf_strOf (Ctr.next_all _ _),Ctr.next_next]
     have Hn:Hid (BlkAt J b bk bc N t c3 F C (i+1) (w5.setCell ⟨bc,0,none⟩ (.string (strOf (Ctr.next C (i+1)))))):=by
      have c5:=cell_below hb5 c4
      obtain⟨_,h1,h2,h3⟩:=Hat4.out
      have hk5:Keep (fun k=>¬ k=bc) W3 (w5.setCell ⟨bc,0,none⟩ (.string (strOf (Ctr.next C (i+1))))):=((Keep.below hb5).mono fun _ _ _=>trivial).setCell (p:=⟨bc,0,none⟩) (fun h=>absurd rfl h) _
      exact Lib.hid ⟨HJ.out _ _ _ h3 hk5,h1.keep hk5 (Ne.symm hcb),hk5.cell (p:=⟨bk,0,none⟩) (Ne.symm hck) h2,World.cell?_setCell_same _ _ _ c5,by go_simp;exact(frozen_below hb5 c4).trans f4⟩
     have c5:=cell_below hb5 c4
     have f5:=(frozen_below hb5 c4).trans f4
     clear hb5 c4 f4 Hat4
     gi_wp2
     refine⟨⟨i+1,hlt,Hn.out⟩,?_⟩
     have hle:BlkLeft J b bk bc N t c3 F C (w5.setCell ⟨bc,0,none⟩ (.string (strOf (Ctr.next C (i+1)))))≤N-(i+1):=leastOf_le (P:=fun k=>∃ i,i+k=N∧BlkAt J b bk bc N t c3 F C i _) ⟨i+1,by omega,Hn.out⟩
     omega
   · have Hx:=Lib.hid hx3
     gi_wp2
     refine bodyPost_ret (results_none rfl _ _ _) rfl ?_
     refine⟨⟨_,rfl⟩,.inr ⟨_,(Str.blocks F C N).drop (i+1),?_,Hx.out⟩⟩
     rw [← Hnext.out,List.take_append_drop]
end Go.Proofs.YtpnbkfboneabaaaGreat
