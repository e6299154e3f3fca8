import Derived.Test.YtpnbkfboneabaaaGreatAW
import Derived.Test.YtpnbkfboneabaaaGreatRows
import Derived.HandedShaped
set_option maxRecDepth 100000
set_option maxHeartbeats 4000000
namespace Go.Proofs.YtpnbkfboneabaaaGreat
theorem Rise.at {l:List Int} (h:Rise l) {i j:Nat} {x y:Int} (hij:i<j) (hx:l[i]? =some x) (hy:l[j]? =some y):x<y:=by
 obtain⟨h1,rfl⟩:=List.getElem?_eq_some_iff.1 hx
 obtain⟨h2,rfl⟩:=List.getElem?_eq_some_iff.1 hy
 exact List.pairwise_iff_getElem.1 h i j h1 h2 hij
end Go.Proofs.YtpnbkfboneabaaaGreat
namespace Go.Proofs.YtpnbkfboneabaaaGreat
open Go.ChangeShapes Go.WideShapes Go.ChangeAt Go.RowKit Go.WideMaps
theorem ints_open {H:Type} {enc:TypeId × Value→H} {P:Program} {w:World} {r:Reach} {b0:Nat} {t e:TypeId} {v:Value} {d:DataW H} {ps:List MemPlace} (ht:P.underlying t=some (.slice e)) (he:P.underlying e=some (.int .i64)) (hc:P.cellsOf e=1)
 (hval:Value.okWide P w r b0 t v) (hd:DataW.Trod enc P w 0 (fun _=>true) true t v d ps):IntsIn v w:=by
 obtain⟨a,len,cap,rfl⟩:=okWide_slice ht hval
 obtain⟨fuel,hf⟩:=hd
 rcases open_ints ht he hc hf with ⟨h,_⟩ | ⟨a',len',cap',zs,h,_,hl,hm,hz,_,hcell,hwf⟩
 · left
   simpa [Value.cells] using h
 · right
   simp only [if_true] at hz
   refine⟨a',len',cap',fun i=>zs.getD i 0,?_,hl,hm,fun i hi=> ?_⟩
   · simpa [Value.cells] using h
   · have hi2:i<zs.length:=by omega
     refine⟨hcell i hi2,?_⟩
     show -9223372036854775808≤zs.getD i 0∧zs.getD i 0≤9223372036854775807
     rw [List.getD_eq_getElem?_getD,List.getElem?_eq_getElem hi2]
     exact bounds_i64 (hwf _ (List.getElem_mem hi2))
end Go.Proofs.YtpnbkfboneabaaaGreat
namespace Go.Proofs.YtpnbkfboneabaaaGreat
open Go.RowKit
theorem ints_head {v:Value} {w:World} (h:IntsIn v w) (m:Nat):∃(ao:Option Addr) (len cap L:Nat) (xs:List Int),v= .slice ao len cap∧min (len:Int) (m:Int)=(L:Int)∧L≤len∧L≤m∧len≤cap∧cap≤maxLen∧xs.length=L∧IntsAt w (.slice ao L cap) xs∧(∀ x∈xs,-9223372036854775808≤x∧x≤9223372036854775807)∧
 ∀ W,(Instr.slice 60 (.slice ao len cap) none (some (.int .i64 (L:Int))) none).run Tryz.prog W= .ok (.slice ao L cap) W:=by
 have hsz:∀ W,(sizeOf 3).run Tryz.prog W= .ok 1 W:=Tryz.sizeOf3
 rcases h with rfl | ⟨a,len,cap,Z,rfl,h1,h2,h3⟩
 · refine⟨none,0,0,0,[],rfl,by omega,Nat.le_refl _,Nat.zero_le _,Nat.le_refl _,Nat.zero_le _,rfl,IntsAt.nil _ _ _,by simp,fun W=> ?_⟩
   rw [run_slice_h (P:=Tryz.prog) (w:=W) 60 none 0 0 Tryz.underlying60 .i64 _ (by omega) (by omega)]
   rw [show Tryz.prog.elem 60=3 from by kernel_rfl,hsz]
   rfl
 · refine⟨some a,len,cap,min len m,(List.range (min len m)).map Z,rfl,by omega,by omega,by omega,h1,h2,by simp,⟨some a,cap,by simp only [List.length_map,List.length_range],by rw [List.length_map,List.length_range];omega,fun i x hx=>⟨a,rfl,?_⟩⟩,fun x hx=> ?_,fun W=> ?_⟩
   · rw [List.getElem?_map] at hx
     have hi:i<min len m:=by
      by_cases hi:i<min len m
      · exact hi
      · rw [List.getElem?_eq_none (by simp;omega)] at hx
        cases hx
     rw [List.getElem?_range hi] at hx
     cases hx
     exact(h3 i (by omega)).1
   · obtain⟨i,hi,rfl⟩:=List.mem_map.1 hx
     rw [List.mem_range] at hi
     exact(h3 i (by omega)).2
   · rw [run_slice_h (P:=Tryz.prog) (w:=W) 60 (some a) len cap Tryz.underlying60 .i64 _ (by omega) (by omega)]
     rw [show Tryz.prog.elem 60=3 from by kernel_rfl,hsz]
     simp only [Result.andThen_ok,sliced,Int.toNat_natCast,Nat.sub_zero,Nat.zero_mul]
     have hself:(if cap=0 then some a else (some a).map fun x=>x.add 0)=some a:=by
      split
      · rfl
      · rw [Option.map_some,Addr.add_zero']
     rw [hself]
theorem ListsAt.nil (W:World):ListsAt W (.slice none 0 0) []:=⟨none,0,rfl,Nat.zero_le _,fun i l h=>by simp at h⟩
theorem lists_row (W:World) (us:List (Value × List Int)) (hn:us.length≤10) (h:∀ u∈us,IntsAt W u.1 u.2):ListsAt (W.alloc (.cells (us.map (·.1)).toArray 60)) (.slice (some ⟨W.heap.size,0,none⟩) us.length us.length) (us.map (·.2)):=by
 refine⟨_,us.length,by rw [List.length_map],by rw [List.length_map];unfold maxLen;omega,fun i l hl=> ?_⟩
 rw [List.getElem?_map] at hl
 cases hu:us[i]? with
 | none=>rw [hu] at hl;cases hl
 | some u=>
   rw [hu] at hl
   cases hl
   refine⟨_,u.1,rfl,?_,(h u (List.mem_of_getElem? hu)).below ((Below.refl _ W).alloc (Nat.le_refl _) _)⟩
   rw [Addr.add_mid,Nat.zero_add,(Row.new W 60 (us.map (·.1)).toArray).cell i]
   simp [hu]
theorem lists_row1 (W:World) {v:Value} {x:List Int} (h:IntsAt W v x):ListsAt (W.alloc (.cells #[v] 60)) (.slice (some ⟨W.heap.size,0,none⟩) 1 1) [x]:=
 lists_row W [(v,x)] (show 1≤10 by decide) (by intro u hu;rw [List.mem_singleton] at hu;subst hu;exact h)
theorem lists_row2 (W:World) {v u:Value} {x y:List Int} (h:IntsAt W v x) (h2:IntsAt W u y):ListsAt (W.alloc (.cells #[v,u] 60)) (.slice (some ⟨W.heap.size,0,none⟩) 2 2) [x,y]:=
 lists_row W [(v,x),(u,y)] (show 2≤10 by decide) (by
  intro q hq
  rcases List.mem_cons.1 hq with rfl | hq
  · exact h
  · rw [List.mem_singleton] at hq;subst hq;exact h2)
theorem lists_row3 (W:World) {v u t:Value} {x y z:List Int} (h:IntsAt W v x) (h2:IntsAt W u y) (h3:IntsAt W t z):ListsAt (W.alloc (.cells #[v,u,t] 60)) (.slice (some ⟨W.heap.size,0,none⟩) 3 3) [x,y,z]:=
 lists_row W [(v,x),(u,y),(t,z)] (show 3≤10 by decide) (by
  intro q hq
  rcases List.mem_cons.1 hq with rfl | hq
  · exact h
  · rcases List.mem_cons.1 hq with rfl | hq
    · exact h2
    · rw [List.mem_singleton] at hq;subst hq;exact h3)
theorem lens1 {m:Nat} {x:List Int} (h:x.length≤m):∀ l∈[x],l.length≤m:=by
 intro l hl
 rw [List.mem_singleton] at hl
 exact hl ▸ h
theorem lens2 {m:Nat} {x y:List Int} (h:x.length≤m) (h2:y.length≤m):∀ l∈[x,y],l.length≤m:=by
 intro l hl
 rcases List.mem_cons.1 hl with rfl | hl
 · exact h
 · exact lens1 h2 l hl
theorem lens3 {m:Nat} {x y z:List Int} (h:x.length≤m) (h2:y.length≤m) (h3:z.length≤m):∀ l∈[x,y,z],l.length≤m:=by
 intro l hl
 rcases List.mem_cons.1 hl with rfl | hl
 · exact h
 · exact lens2 h2 h3 l hl
theorem meetL_ext {a b:List (List Int)} (ha:a≠[]) (hb:b≠[]) (h:∀ n:Int,(∀ l∈a,n∈l) ↔ (∀ l∈b,n∈l)):meetL a=meetL b:=
 rise_ext (meetL_rise _) (meetL_rise _) fun n=>by rw [mem_meetL ha,mem_meetL hb];exact h n
theorem meet_turn (x y z:List Int):meetL [z,x,y]=meetL [x,y,z]:=meetL_ext (by simp) (by simp) fun n=>by
 simp only [List.mem_cons,List.not_mem_nil,or_false,forall_eq_or_imp,forall_eq]
 exact⟨fun h=>⟨h.2.1,h.2.2,h.1⟩,fun h=>⟨h.2.2,h.1,h.2.1⟩⟩
theorem meet_two (x y z:List Int):meetL [meetL [x,y],z]=meetL [x,y,z]:=meetL_ext (by simp) (by simp) fun n=>by
 simp only [List.mem_cons,List.not_mem_nil,or_false,forall_eq_or_imp,forall_eq]
 rw [mem_meetL (by simp)]
 simp only [List.mem_cons,List.not_mem_nil,or_false,forall_eq_or_imp,forall_eq]
 exact⟨fun h=>⟨h.1.1,h.1.2,h.2⟩,fun h=>⟨⟨h.1,h.2.1⟩,h.2.2⟩⟩
theorem meet_self (x:List Int):meetL [x,x]=meetL [x]:=meetL_ext (by simp) (by simp) fun n=>by
 simp only [List.mem_cons,List.not_mem_nil,or_false,forall_eq_or_imp,forall_eq]
 exact⟨fun h=>h.1,fun h=>⟨h,h⟩⟩
theorem meet_none (x:List Int):meetL [x,[]]=[]:=by
 refine List.eq_nil_iff_forall_not_mem.2 fun n hn=> ?_
 rw [mem_meetL (by simp)] at hn
 exact absurd (hn [] (by simp)) (by simp)
theorem meetL_length (a:List Int) (r:List (List Int)):(meetL (a::r)).length≤(ups a).length:=List.length_filter_le _ _
theorem ups_length (l:List Int):(ups l).length≤l.length:=by
 have h:(l.mergeSort fun x y=>decide (x≤y)).length=l.length:=List.length_mergeSort ..
 unfold ups Lib.compact Lib.compactUpTo
 rw [List.length_map,← h]
 exact Nat.le_trans (List.length_filter_le _ _) (by simp)
end Go.Proofs.YtpnbkfboneabaaaGreat
namespace Go.Proofs.YtpnbkfboneabaaaGreat.planMeets
open Go.ChangeShapes Go.WideShapes Go.ChangeAt Go.RowKit Go.WideMaps
theorem walk [Sha.Words] (a b c:Value) (w:World) (hR:Sha.RoundIn w) (ha:IntsIn a w) (hb:IntsIn b w) (hc:IntsIn c w):
 Calls Tryz.prog 9 #[a,b,c] w fun e w'=>e= .returned (.bool true)∧Below w.heap.size w w':=by
 obtain⟨aX,nX,cX,LX,xs,rfl,mX,qX,uX,rX,sX,iX,hX,-,slX⟩:=ints_head ha 12
 have pX:(nX:Int)≤9223372036854775807:=by unfold maxLen at sX;omega
 have tX:xs.length≤1000000:=by omega
 have HX:Hid (∀ W,Below w.heap.size w W→IntsAt W (.slice aX LX cX) xs):=Lib.hid fun W hb=>hX.below hb
 change min (nX:Int) 12=(LX:Int) at mX
 obtain⟨aY,nY,cY,LY,ys,rfl,mY,qY,uY,rY,sY,iY,hY,-,slY⟩:=ints_head hb 12
 have pY:(nY:Int)≤9223372036854775807:=by unfold maxLen at sY;omega
 have tY:ys.length≤1000000:=by omega
 have HY:Hid (∀ W,Below w.heap.size w W→IntsAt W (.slice aY LY cY) ys):=Lib.hid fun W hb=>hY.below hb
 change min (nY:Int) 12=(LY:Int) at mY
 obtain⟨aZ,nZ,cZ,LZ,zs,rfl,mZ,qZ,uZ,rZ,sZ,iZ,hZ,-,slZ⟩:=ints_head hc 12
 have pZ:(nZ:Int)≤9223372036854775807:=by unfold maxLen at sZ;omega
 have tZ:zs.length≤1000000:=by omega
 have HZ:Hid (∀ W,Below w.heap.size w W→IntsAt W (.slice aZ LZ cZ) zs):=Lib.hid fun W hb=>hZ.below hb
 change min (nZ:Int) 12=(LZ:Int) at mZ
 have hM:∀ W v ls,ListsAt W v ls→(∀ l∈ls,l.length≤1000000)→Calls Tryz.prog 32 #[v] W fun e w'=>∃ ao cap,e= .returned (.slice ao (meetL ls).length cap)∧IntsAt w' (.slice ao (meetL ls).length cap) (meetL ls)∧Below W.heap.size W w':=fun W v ls h1 h2=>by
  refine(meet_any v ls W h1 h2).mono ?_
  rintro e w' ⟨⟨v',rfl,h⟩,hb⟩
  obtain⟨ao,cap,rfl,h3,h4⟩:=h
  exact⟨ao,cap,rfl,⟨ao,cap,rfl,h3,h4⟩,hb⟩
 have hI:∀ W v u l,IntsAt W v l→IntsAt W u l→Calls Tryz.prog 29 #[v,u] W fun e w'=>e= .returned (.bool true)∧Below W.heap.size W w':=fun W v u l h1 h2=>(refInts_any v u l l W h1 h2).mono fun e w' ⟨he,q,hq⟩=>⟨by rw [he,decide_eq_true rfl],hq ▸ Below.trans_drewN (Below.refl _ W) q⟩
 have hAw:=awake19_any w hR
 have hlen:(meetL [xs,ys,zs]).length≤12:=Nat.le_trans (meetL_length _ _) (Nat.le_trans (ups_length _) (by omega))
 have hris:=meetL_rise [xs,ys,zs]
 have e1:=meet_turn xs ys zs
 have e2:=meet_two xs ys zs
 have e3:=meet_self xs
 have e4:=meet_none xs
 have l2:(meetL [xs,ys]).length≤1000000:=Nat.le_trans (meetL_length _ _) (Nat.le_trans (ups_length _) tX)
 have HhM:=Lib.hid hM
 have HhI:=Lib.hid hI
 have HhAw:=Lib.hid hAw
 have Hhris:=Lib.hid hris
 have HtX:=Lib.hid tX
 have HtY:=Lib.hid tY
 have HtZ:=Lib.hid tZ
 have He1:=Lib.hid e1
 have He2:=Lib.hid e2
 have He3:=Lib.hid e3
 have He4:=Lib.hid e4
 have Hl2:=Lib.hid l2
 clear hM hI hAw hris tX tY tZ e1 e2 e3 e4 l2 hR hX hY hZ sX sY sZ rX rY rZ
 have Hb0:Hid (Below w.heap.size w w):=Lib.hid (Below.refl _ _)
 go_enter Tryz.func9,Tryz.ntmps9
 go_wp2_with fail
 refine HhAw.out.mono ?_
 rintro e w1 ⟨rfl,hb1⟩
 have Hb1:=Lib.hid hb1
 clear hb1 HhAw Hb0
 go_wp2_with fail
 refine(HhM.out _ _ _ (lists_row3 w1 (HX.out _ Hb1.out) (HY.out _ Hb1.out) (HZ.out _ Hb1.out)) (lens3 (HtX.out) (HtY.out) (HtZ.out))).mono ?_
 rintro e w2 ⟨aA,kA,rfl,hA,hb2⟩
 obtain⟨all,hall⟩:∃ all,meetL [xs,ys,zs]=all:=⟨_,rfl⟩
 obtain⟨N,hN⟩:∃ N,all.length=N:=⟨_,rfl⟩
 rw [hall] at hA hlen He1 He2 Hhris ⊢
 rw [hN] at hA hlen ⊢
 have hAc:=hA
 obtain⟨_,_,hAe,_,hAd⟩:=hAc
 injection hAe with hAe hAn hAf
 clear hAn
 subst hAe
 subst hAf
 have HAd:=Lib.hid hAd
 have HA:Hid (∀ W,Below w2.heap.size w2 W→IntsAt W (.slice aA N kA) all):=Lib.hid fun W hb=>hA.below hb
 have Hb2:=Lib.hid (below_seq Hb1.out (below_seq ((Below.refl _ w1).alloc (Nat.le_refl _) _) hb2))
 have HN:=Lib.hid hN
 clear hA hb2 Hb1 hAd hall hN
 have h64:(N:Int)≤12:=by omega
 go_wp2
 go_loopw [12] (fun vi wr=>∃ k:Nat,vi= .int .i64 ((k:Int)+1)∧(k+1≤N∨k=0)∧Below w2.heap.size w2 wr) (fun vi _=>N+1-(intOf vi).toNat)
 case atStart=>exact⟨0,rfl,.inr rfl,Below.refl _ _⟩
 case round=>
  obtain⟨k,rfl,hk,hbr⟩:=hrel
  by_cases hlt:k+1<N
  · have hlt':(k:Int)+1<(N:Int):=by omega
    have Hbr:=Lib.hid hbr
    obtain⟨p,hp⟩:∃ p,all[k]? =some p:=⟨_,List.getElem?_eq_getElem (by have:=HN.out;omega)⟩
    obtain⟨q,hq⟩:∃ q,all[k+1]? =some q:=⟨_,List.getElem?_eq_getElem (by have:=HN.out;omega)⟩
    have hpq:=Hhris.out.at (Nat.lt_succ_self k) hp hq
    obtain⟨ad,rfl,z1⟩:=HAd.out k p hp
    obtain⟨ad2,had,z2⟩:=HAd.out (k+1) q hq
    injection had with had
    subst had
    have z1:=cell_below Hbr.out z1
    have z2:=cell_below Hbr.out z2
    rw [Addr.add_succ'] at z2
    have hk':(k:Int)<(N:Int):=by omega
    have hge:¬ q≤p:=by omega
    have hwk:IntKind.i64.wrap (k:Int)=(k:Int):=IntWalk.i64_in _ (by omega)
    clear hbr hp hq
    go_wp2
    go_quiet (fail)
    go_wp2
    go_roundw
    case rel=>exact⟨k+1,by simp,.inl (by omega),Below.trans_drewN Hbr.out _⟩
    case measure=>simp [intOf];omega
  · have hlt':¬ (k:Int)+1<(N:Int):=by omega
    have Hc3:=Lib.hid hbr
    have Hb3:=Lib.hid (below_seq Hb2.out hbr)
    clear hbr hk hlt
    have wr0:wr=wr:=rfl
    clear wr0
    obtain⟨w3,rfl⟩:∃ w3,w3=wr:=⟨_,rfl⟩
    go_wp2_with fail
    refine(HhM.out _ _ _ (lists_row3 _ (HZ.out _ Hb3.out) (HX.out _ Hb3.out) (HY.out _ Hb3.out)) (lens3 (HtZ.out) (HtX.out) (HtY.out))).mono ?_
    rintro e w4 ⟨aB,kB,rfl,hB,hb4⟩
    have hbx:Below _ _ w4:=below_seq ((Below.refl _ _).alloc (Nat.le_refl _) _) hb4
    have Hb4:=Lib.hid (below_seq Hb3.out hbx)
    have Hc4:=Lib.hid (below_seq Hc3.out hbx)
    rw [He1.out] at hB ⊢
    have HB:=Lib.hid hB
    clear hB hb4 hbx Hb3 Hc3
    go_wp2_with fail
    refine(HhI.out _ _ _ all (HA.out _ Hc4.out) HB.out).mono ?_
    rintro e w5 ⟨rfl,hb5⟩
    have Hb5:=Lib.hid (below_seq Hb4.out hb5)
    have Hc5:=Lib.hid (below_seq Hc4.out hb5)
    clear hb5 Hb4 Hc4
    clear HB
    go_wp2_with fail
    refine(HhM.out _ _ _ (lists_row2 _ (HX.out _ Hb5.out) (HY.out _ Hb5.out)) (lens2 (HtX.out) (HtY.out))).mono ?_
    rintro e w6 ⟨aC,kC,rfl,hC,hb6⟩
    have hbx:Below _ _ w6:=below_seq ((Below.refl _ _).alloc (Nat.le_refl _) _) hb6
    have Hb6:=Lib.hid (below_seq Hb5.out hbx)
    have Hc6:=Lib.hid (below_seq Hc5.out hbx)
    have HC:=Lib.hid hC
    clear hC hb6 hbx Hb5 Hc5
    go_wp2_with fail
    refine(HhM.out _ _ _ (lists_row2 _ (HC.out) (HZ.out _ Hb6.out)) (lens2 (Hl2.out) (HtZ.out))).mono ?_
    rintro e w7 ⟨aD,kD,rfl,hD,hb7⟩
    have hbx:Below _ _ w7:=below_seq ((Below.refl _ _).alloc (Nat.le_refl _) _) hb7
    have Hb7:=Lib.hid (below_seq Hb6.out hbx)
    have Hc7:=Lib.hid (below_seq Hc6.out hbx)
    rw [He2.out] at hD ⊢
    have HD:=Lib.hid hD
    clear hD hb7 hbx Hb6 Hc6 HC
    go_wp2_with fail
    refine(HhI.out _ _ _ all (HA.out _ Hc7.out) HD.out).mono ?_
    rintro e w8 ⟨rfl,hb8⟩
    have Hb8:=Lib.hid (below_seq Hb7.out hb8)
    have Hc8:=Lib.hid (below_seq Hc7.out hb8)
    clear hb8 Hb7 Hc7
    clear HD
    go_wp2_with fail
    refine(HhM.out _ _ _ (lists_row1 _ (HX.out _ Hb8.out)) (lens1 (HtX.out))).mono ?_
    rintro e w9 ⟨aE,kE,rfl,hE,hb9⟩
    have hbx:Below _ _ w9:=below_seq ((Below.refl _ _).alloc (Nat.le_refl _) _) hb9
    have Hb9:=Lib.hid (below_seq Hb8.out hbx)
    have Hc9:=Lib.hid (below_seq Hc8.out hbx)
    have HE:=Lib.hid hE
    clear hE hb9 hbx Hb8 Hc8
    go_wp2_with fail
    refine(HhM.out _ _ _ (lists_row2 _ (HX.out _ Hb9.out) (HX.out _ Hb9.out)) (lens2 (HtX.out) (HtX.out))).mono ?_
    rintro e w10 ⟨aG,kG,rfl,hG,hb10⟩
    have hbx:Below _ _ w10:=below_seq ((Below.refl _ _).alloc (Nat.le_refl _) _) hb10
    have Hb10:=Lib.hid (below_seq Hb9.out hbx)
    have Hc10:=Lib.hid (below_seq Hc9.out hbx)
    rw [He3.out] at hG ⊢
    have HG:=Lib.hid hG
    have HE2:=Lib.hid (HE.out.below hbx)
    clear hG hb10 hbx Hb9 Hc9 HE
    go_wp2_with fail
    refine(HhI.out _ _ _ (meetL [xs]) HE2.out HG.out).mono ?_
    rintro e w11 ⟨rfl,hb11⟩
    have Hb11:=Lib.hid (below_seq Hb10.out hb11)
    have Hc11:=Lib.hid (below_seq Hc10.out hb11)
    clear hb11 Hb10 Hc10
    clear HG HE2
    go_wp2_with fail
    refine(HhM.out _ _ [] (ListsAt.nil _) (by simp)).mono ?_
    rintro e w12 ⟨aH,kH,rfl,-,hb12⟩
    have Hb12:=Lib.hid (below_seq Hb11.out hb12)
    have Hc12:=Lib.hid (below_seq Hc11.out hb12)
    clear hb12 Hb11 Hc11
    rw [show (meetL []).length=0 from rfl]
    go_wp2_with fail
    refine(HhM.out _ _ _ (lists_row2 _ (HX.out _ Hb12.out) (IntsAt.nil _ _ _)) (lens2 (HtX.out) (Nat.zero_le _))).mono ?_
    rintro e w13 ⟨aK,kK,rfl,hK,hb13⟩
    have hbx:Below _ _ w13:=below_seq ((Below.refl _ _).alloc (Nat.le_refl _) _) hb13
    have Hb13:=Lib.hid (below_seq Hb12.out hbx)
    have Hc13:=Lib.hid (below_seq Hc12.out hbx)
    rw [He4.out]
    rw [show ([]:List Int).length=0 from rfl]
    clear hK hb13 hbx Hb12 Hc12 Hc13
    go_wp2
    go_ret
    exact⟨rfl,Hb13.out⟩
theorem own:ownKnob Tryz.prog.godebug=none:=by kernel_rfl
theorem lay:laidOutB Tryz.prog=true:=by kernel_rfl
theorem lifted (os:Os) (started:os.Started) (H:Type) (enc:TypeId × Value→H):
 ReturnsInHanded {} Tryz.checked os 9 .any (Rows.planMeetsSpec.pre6 enc Tryz.prog Tryz.f9 Rows.planMeetsRow.domain false) (Rows.planMeetsSpec.post enc Tryz.prog Tryz.f9 false true false false):=by
 refine returnsInHanded_of_change_shaped (C:=Tryz.checked) own started (by kernel_rfl) Tryz.func9
  (ChangeSpec.witness6 (enc:=enc) (C:=Tryz.checked) false ⟨#[],#[.slice none 0 0,.slice none 0 0,.slice none 0 0],[]⟩ 8 (by kernel_rfl) (by kernel_rfl) (by kernel_rfl) (by kernel_rfl)) ?_
 intro W base args ds gs before hval0 hW hcnd hsz0 hsh _
 have hval:∀(j:Nat) t v,Tryz.f9.params[j]? =some t→args[j]? =some v→Value.okWide Tryz.prog W .any base t v:=hval0
 have hsz:(DataW.weightsEach Tryz.prog (Tryz.f9.params.toList++Rows.planMeetsSpec.plain.varTypes Tryz.prog) (ds++gs)).all (· ≤reachBytes)=true:=hsz0
 have hW':=hW
 obtain⟨p,q,hA0,hV,rfl,hfz,hnd⟩:=hW
 have hA:DataW.TrodAll enc Tryz.prog W 0 (fun _=>true) true Tryz.f9.params.toList args.toList ds p:=hA0
 rw [Tryz.params9] at hA hval hsz
 obtain⟨v0,vs0,d0,ds0,p0,q0,hargs,rfl,rfl,h0,r0⟩:=trodAll_cons hA
 obtain⟨v1,vs1,d1,ds1,p1,q1,rfl,rfl,rfl,h1,r1⟩:=trodAll_cons r0
 obtain⟨v2,vs2,d2,ds2,p2,q2,rfl,rfl,rfl,h2,r2⟩:=trodAll_cons r1
 obtain⟨rfl,rfl,rfl⟩:=trodAll_nil r2
 obtain rfl:args=#[v0,v1,v2]:=by cases args;simp_all
 obtain⟨rfl,rfl⟩:=trodVars_none hV
 have k0:=ints_open Tryz.underlying60 Tryz.underlying3 (by kernel_rfl) (hval 0 60 v0 rfl rfl) h0
 have k1:=ints_open Tryz.underlying60 Tryz.underlying3 (by kernel_rfl) (hval 1 60 v1 rfl rfl) h1
 have k2:=ints_open Tryz.underlying60 Tryz.underlying3 (by kernel_rfl) (hval 2 60 v2 rfl rfl) h2
 obtain⟨kw,hkw⟩:=Sha.words_of hsh
 letI:Sha.Words:=⟨kw⟩
 have hRI:Sha.RoundIn W:=hkw
 refine(walk v0 v1 v2 W hRI k0 k1 k2).mono fun e W' ⟨he,hg⟩=> ?_
 subst he
 have hts:∀ t∈Tryz.f9.params.toList,Tryz.prog.readableRec t=true∧t<Tryz.prog.types.size:=by
  rw [Tryz.params9]
  intro t ht
  simp only [List.mem_cons,List.not_mem_nil,or_false] at ht
  rcases ht with rfl | rfl | rfl <;> exact⟨by kernel_rfl,of_decide_eq_true (by kernel_rfl)⟩
 exact⟨_,rfl,post_true lay hts (by kernel_rfl) Tryz.underlying4 rfl rfl hW' hg⟩
end Go.Proofs.YtpnbkfboneabaaaGreat.planMeets
