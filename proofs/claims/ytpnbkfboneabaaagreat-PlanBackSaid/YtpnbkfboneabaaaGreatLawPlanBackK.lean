import Derived.Test.YtpnbkfboneabaaaGreatAW
import Derived.Test.YtpnbkfboneabaaaGreatOD
import Derived.Test.YtpnbkfboneabaaaGreatWA
import Derived.Test.YtpnbkfboneabaaaGreatGG
import Derived.Deep.CutRange
import Derived.Deep.RegionWith
import Derived.HandedShaped
set_option maxRecDepth 100000
set_option maxHeartbeats 4000000
namespace Go.Proofs.YtpnbkfboneabaaaGreat.planBack
open Go.ChangeShapes Go.WideShapes Go.ChangeAt Go.RowKit Go.WideMaps
theorem walk [Sha.Words] (a:Int) (ha: -9223372036854775808≤a∧a≤9223372036854775807) (b:Int) (hb: -9223372036854775808≤b∧b≤9223372036854775807) (c:Int) (hc: -9223372036854775808≤c∧c≤9223372036854775807) (d:Int) (hd: -9223372036854775808≤d∧d≤9223372036854775807) (w:World) (hR:Sha.RoundIn w):
 Calls Tryz.prog 5 #[.agg #[.int .i64 a,.int .i64 b],.agg #[.int .i64 c,.int .i64 d]] w fun e w'=>e= .returned (.bool true)∧Below w.heap.size w w':=by
 have hPm0:=fun W=>pick19_any a 3 ha (by decide) W
 obtain⟨m0,em0,lm0⟩:=pick_nat a 3 (by decide)
 change pickOf a 3=(m0:Int) at em0
 rw [em0] at hPm0
 have hPm1:=fun W=>pick19_any b 1073741825 hb (by decide) W
 obtain⟨m1,em1,lm1⟩:=pick_nat b 1073741825 (by decide)
 change pickOf b 1073741825=(m1:Int) at em1
 rw [em1] at hPm1
 have hPn0:=fun W=>pick19_any c 3 hc (by decide) W
 obtain⟨n0,en0,ln0⟩:=pick_nat c 3 (by decide)
 change pickOf c 3=(n0:Int) at en0
 rw [en0] at hPn0
 have hPn1:=fun W=>pick19_any d 1073741825 hd (by decide) W
 obtain⟨n1,en1,ln1⟩:=pick_nat d 1073741825 (by decide)
 change pickOf d 1073741825=(n1:Int) at en1
 rw [en1] at hPn1
 have hT:∀(wd:ByteArray) (ct:Int) (k id:Nat),k<3→id<1073741825→∀ W,Calls Tryz.prog 16 #[.agg #[.string wd,.int .i64 0,.int .i64 ct,.int .i64 (k:Int),.int .i64 (id:Int)]] W fun e w'=>e= .returned (.tuple #[.string (Pln.cellB k id),.int .i64 0])∧Below W.heap.size W w':=fun wd ct k id h1 h2 W=>planText_any k id (by omega) (by omega) wd 0 ct W
 have hA:=hT ⟨#[111,110,101]⟩ 0 m0 m1 lm0 lm1
 have hB:=hT ⟨#[]⟩ 7 n0 n1 ln0 ln1
 have hRd:=fun W=>planRead_any m0 m1 (by omega) (by omega) W
 have hinj:Pln.cellB m0 m1=Pln.cellB n0 n1→m0=n0∧m1=n1:=Pln.cellB_inj (by omega) (by omega) (by omega) (by omega)
 have hsame:m0=n0→m1=n1→Pln.cellB m0 m1=Pln.cellB n0 n1:=by rintro rfl rfl;rfl
 have hAz:(Pln.cellB m0 m1).size=24:=Pln.cellB_size _ _
 generalize Pln.cellB m0 m1=A at*
 generalize Pln.cellB n0 n1=B at*
 have iA:(A.size:Int)=24:=by omega
 have hsz:(A.extract 0 23).size=23:=by rw [ByteArray.size_extract];omega
 have hO1:∀ W,Calls Tryz.prog 18 #[.string (A.extract 0 (max (23:Int) 0).toNat)] W fun e w'=>e= .returned (.tuple #[.int .i64 0,.int .i64 0,.bool false])∧w'=W:=fun W=>by
  rw [show (max (23:Int) 0).toNat=23 by decide]
  exact planRead_odd (A.extract 0 23) (by omega) (by rw [hsz];decide) W
 have hO2:=fun W=>planRead_odd (A++⟨#[0]⟩) (by rw [ByteArray.size_append];show A.size+1≠24;omega) (by rw [ByteArray.size_append,hAz];decide) W
 obtain⟨p0,q0,hb0,hz0⟩:=box2 w #[.int .i64 a,.int .i64 b] #[.int .i64 c,.int .i64 d] 72 72
 have hAw:=awake19_any _ (hR.below hb0)
 have hcmp:(A.toList == B.toList)=(decide (m0=n0) && decide (m1=n1)):=by
  rw [texts_beq]
  by_cases h1:m0=n0
  · by_cases h2:m1=n1
    · simp [h1,h2,hsame h1 h2]
    · have:¬ A=B:=fun h=>h2 (hinj h).2
      simp [h2,this]
  · have:¬ A=B:=fun h=>h1 (hinj h).1
    simp [h1,this]
 have HPm0:=Lib.hid hPm0
 have HPm1:=Lib.hid hPm1
 have HPn0:=Lib.hid hPn0
 have HPn1:=Lib.hid hPn1
 have HA:=Lib.hid hA
 have HB:=Lib.hid hB
 have HRd:=Lib.hid hRd
 have HO1:=Lib.hid hO1
 have HO2:=Lib.hid hO2
 have HAw:=Lib.hid hAw
 have HR:=Lib.hid hR
 have Hcmp:=Lib.hid hcmp
 clear hPm0 hPm1 hPn0 hPn1 hA hB hRd hO1 hO2 hAw hT hR hinj hsame hAz hsz ha hb hc hd em0 em1 en0 en1 lm0 lm1 ln0 ln1 hcmp hz0
 go_enter Tryz.func5,Tryz.ntmps5
 go_wp2_with fail
 refine HAw.out.mono ?_
 rintro e w1 ⟨rfl,hb1⟩
 have p1:=p0.below hb1 p0.lt
 have q1:=q0.below hb1 q0.lt
 have hb01:=below_seq hb0 hb1
 clear p0 q0 hb0 hb1 HAw
 go_upto_region 2 with fail
 have c0:w1.cell? ⟨w.heap.size,0,none⟩=some (.int .i64 a):=p1.cell 0
 have c1:w1.cell? ⟨w.heap.size,1,none⟩=some (.int .i64 b):=p1.cell 1
 have u1:w.heap.size<w1.heap.size:=p1.lt
 have u2:w.heap.size≠w1.heap.size:=by omega
 go_cut [6] from 22 to 28 (fun v wx=>∃ g,v= .pointer (some ⟨g,0,none⟩)∧Row wx g 27 #[.string ⟨#[111,110,101]⟩,.int .i64 0,.int .i64 0,.int .i64 (m0:Int),.int .i64 (m1:Int)]∧Below w1.heap.size w1 wx)
 case first=>
  refine wp_region_any (by kernel_rfl) ?_
  change wpAny _ _ _ _ _ _ _ (World.drew w1)
  refine wpAny_head 8 [22,23,24,25,26,27,28,6] 1 #[true,true,true,true,true,true,true,true,false] (fun j v W=>match j with
   | 0=>v= .pointer (some ⟨w.heap.size,0,none⟩)
   | 1=>v= .int .i64 a
   | 2=>v= .int .i64 (m0:Int)
   | 3=>v= .pointer (some ⟨w.heap.size,1,none⟩)
   | 4=>v= .int .i64 b
   | 5=>v= .int .i64 (m1:Int)
   | 6=>v= .agg #[.string ⟨#[111,110,101]⟩,.int .i64 0,.int .i64 0,.int .i64 (m0:Int),.int .i64 (m1:Int)]
   | _=>∃ g,v= .pointer (some ⟨g,0,none⟩)∧w1.heap.size≤g∧Row W g 27 #[.string ⟨#[]⟩,.int .i64 0,.int .i64 0,.int .i64 0,.int .i64 0]) (by kernel_rfl) (by kernel_rfl) (by kernel_rfl) (by kernel_rfl) ?_ ?_ ?_
  · intro j hj v W W' h hb
    rcases j with _ | _ | _ | _ | _ | _ | _ | j
    all_goals first
     | exact h
     | (obtain⟨g,h1,h2,h3⟩:=h;exact⟨g,h1,h2,h3.below hb h3.lt⟩)
  · refine HSteps.cons rfl (fun x W ρ hB hdep hin hout hcon hfun=> ?_) (HSteps.cons rfl (fun x W ρ hB hdep hin hout hcon hfun=> ?_) (HSteps.cons rfl (fun x W ρ hB hdep hin hout hcon hfun=> ?_) (HSteps.cons rfl (fun x W ρ hB hdep hin hout hcon hfun=> ?_) (HSteps.cons rfl (fun x W ρ hB hdep hin hout hcon hfun=> ?_) (HSteps.cons rfl (fun x W ρ hB hdep hin hout hcon hfun=> ?_) (HSteps.cons rfl (fun x W ρ hB hdep hin hout hcon hfun=> ?_) (HSteps.cons rfl (fun x W ρ hB hdep hin hout hcon hfun=> ?_) (HSteps.nil (Nat.le_refl _)))))))))
    · skip
      have e2:=hout 2 (by decide)
      change ρ (.tmp 2)= .pointer (some ⟨w.heap.size,0,none⟩) at e2
      clear hdep hin hout
      refine Stepped.val ?_ rfl
      go_simp
    · skip
      have d0:=hdep ⟨0,.data⟩ (by simp) rfl
      have e22:=hin 0 22 rfl
      rw [show x 0=_ from d0] at e22
      have z0:=cell_below hB c0
      clear hdep hin hout
      refine Stepped.val ?_ rfl
      go_simp
    · skip
      have d1:=hdep ⟨1,.data⟩ (by simp) rfl
      have e23:=hin 1 23 rfl
      rw [show x 1=_ from d1] at e23
      clear hdep hin hout
      refine Stepped.call (f:=15) (args:=#[.int .i64 a,.int .i64 3]) ?_ ?_
      · go_simp
      · skip
        refine(HPm0.out _).mono ?_
        rintro e W' ⟨rfl,rfl⟩
        exact⟨_,rfl,Below.refl _ _,rfl⟩
    · skip
      have e2:=hout 2 (by decide)
      change ρ (.tmp 2)= .pointer (some ⟨w.heap.size,0,none⟩) at e2
      clear hdep hin hout
      refine Stepped.val ?_ rfl
      go_simp
    · skip
      have d3:=hdep ⟨3,.data⟩ (by simp) rfl
      have e25:=hin 3 25 rfl
      rw [show x 3=_ from d3] at e25
      have z1:=cell_below hB c1
      clear hdep hin hout
      refine Stepped.val ?_ rfl
      go_simp
    · skip
      have d4:=hdep ⟨4,.data⟩ (by simp) rfl
      have e26:=hin 4 26 rfl
      rw [show x 4=_ from d4] at e26
      clear hdep hin hout
      refine Stepped.call (f:=15) (args:=#[.int .i64 b,.int .i64 1073741825]) ?_ ?_
      · go_simp
      · skip
        refine(HPm1.out _).mono ?_
        rintro e W' ⟨rfl,rfl⟩
        exact⟨_,rfl,Below.refl _ _,rfl⟩
    · skip
      have d2:=hdep ⟨2,.data⟩ (by simp) rfl
      have e24:=hin 2 24 rfl
      rw [show x 2=_ from d2] at e24
      have d5:=hdep ⟨5,.data⟩ (by simp) rfl
      have e27:=hin 5 27 rfl
      rw [show x 5=_ from d5] at e27
      clear hdep hin hout
      refine Stepped.val ?_ rfl
      go_simp
    · skip
      clear hdep hin hout
      refine Stepped.grow (v:= .pointer (some ⟨W.heap.size,0,none⟩)) (w':=W.alloc (.cells #[.string ⟨#[]⟩,.int .i64 0,.int .i64 0,.int .i64 0,.int .i64 0] 27)) ?_ ((Below.refl _ _).alloc (Nat.le_refl _) _) ⟨_,rfl,hB.size,Row.new W _ _⟩
      go_simp
  · intro x W hB hR
    have d0:=hR 0 (by decide)
    have d1:=hR 1 (by decide)
    have d2:=hR 2 (by decide)
    have d3:=hR 3 (by decide)
    have d4:=hR 4 (by decide)
    have d5:=hR 5 (by decide)
    have d6:=hR 6 (by decide)
    obtain⟨g,d7,hg,hrow⟩:=hR 7 (by decide)
    clear hR
    change x 0=_ at d0
    change x 1=_ at d1
    change x 2=_ at d2
    change x 3=_ at d3
    change x 4=_ at d4
    change x 5=_ at d5
    change x 6=_ at d6
    change x 7=_ at d7
    have z0:W.cell? ⟨g,0,none⟩=some (.string ⟨#[]⟩):=hrow.cell 0
    have f0:=hrow.frozen 0
    have z1:W.cell? ⟨g,1,none⟩=some (.int .i64 0):=hrow.cell 1
    have f1:=hrow.frozen 1
    have z2:W.cell? ⟨g,2,none⟩=some (.int .i64 0):=hrow.cell 2
    have f2:=hrow.frozen 2
    have z3:W.cell? ⟨g,3,none⟩=some (.int .i64 0):=hrow.cell 3
    have f3:=hrow.frozen 3
    have z4:W.cell? ⟨g,4,none⟩=some (.int .i64 0):=hrow.cell 4
    have f4:=hrow.frozen 4
    simp only [putAll,Act.put,d0,d1,d2,d3,d4,d5,d6,d7]
    refine wpAny_ready (rs:=[8]) (by kernel_rfl) (by simp) ?_
    refine AllReady.cons rfl (fun K hK=> ?_) AllReady.nil
    go_simp
    refine hK _ _ ?_
    clear hK K
    refine wpAny_done (by kernel_rfl) ?_ _
    go_wp2
    go_meet
    exact⟨g,rfl,((((hrow.store 0 _).store 1 _).store 2 _).store 3 _).store 4 _,((((((below_drew hB)).setCell (p:=⟨g,0,none⟩) hg _).setCell (p:=⟨g,1,none⟩) hg _).setCell (p:=⟨g,2,none⟩) hg _).setCell (p:=⟨g,3,none⟩) hg _).setCell (p:=⟨g,4,none⟩) hg _⟩
 case rest=>
  obtain⟨w3,rfl⟩:∃ w3,w3=wc:=⟨_,rfl⟩
  obtain⟨g,rfl,hg,hbx⟩:=hcut
  have q2:=q1.below hbx q1.lt
  have hb02:=hb01.trans (hbx.mono hb01.size)
  have Hg:=Lib.hid hg
  clear p1 q1 hb01 c0 c1 u1 u2 hbx hg HPm0 HPm1
  go_upto_region 3 with fail
  have c0:w3.cell? ⟨w.heap.size+1,0,none⟩=some (.int .i64 c):=q2.cell 0
  have c1:w3.cell? ⟨w.heap.size+1,1,none⟩=some (.int .i64 d):=q2.cell 1
  go_cut [7] from 29 to 35 (fun v wx=>∃ g,v= .pointer (some ⟨g,0,none⟩)∧Row wx g 27 #[.string ⟨#[]⟩,.int .i64 0,.int .i64 7,.int .i64 (n0:Int),.int .i64 (n1:Int)]∧Below w3.heap.size w3 wx)
  case first=>
   refine wp_region_any (by kernel_rfl) ?_
   change wpAny _ _ _ _ _ _ _ (World.drew w3)
   refine wpAny_head 8 [29,30,31,32,33,34,35,7] 1 #[true,true,true,true,true,true,true,true,false] (fun j v W=>match j with
    | 0=>v= .pointer (some ⟨w.heap.size+1,0,none⟩)
    | 1=>v= .int .i64 c
    | 2=>v= .int .i64 (n0:Int)
    | 3=>v= .pointer (some ⟨w.heap.size+1,1,none⟩)
    | 4=>v= .int .i64 d
    | 5=>v= .int .i64 (n1:Int)
    | 6=>v= .agg #[.string ⟨#[]⟩,.int .i64 0,.int .i64 7,.int .i64 (n0:Int),.int .i64 (n1:Int)]
    | _=>∃ g,v= .pointer (some ⟨g,0,none⟩)∧w3.heap.size≤g∧Row W g 27 #[.string ⟨#[]⟩,.int .i64 0,.int .i64 0,.int .i64 0,.int .i64 0]) (by kernel_rfl) (by kernel_rfl) (by kernel_rfl) (by kernel_rfl) ?_ ?_ ?_
   · intro j hj v W W' h hb
     rcases j with _ | _ | _ | _ | _ | _ | _ | j
     all_goals first
      | exact h
      | (obtain⟨g,h1,h2,h3⟩:=h;exact⟨g,h1,h2,h3.below hb h3.lt⟩)
   · refine HSteps.cons rfl (fun x W ρ hB hdep hin hout hcon hfun=> ?_) (HSteps.cons rfl (fun x W ρ hB hdep hin hout hcon hfun=> ?_) (HSteps.cons rfl (fun x W ρ hB hdep hin hout hcon hfun=> ?_) (HSteps.cons rfl (fun x W ρ hB hdep hin hout hcon hfun=> ?_) (HSteps.cons rfl (fun x W ρ hB hdep hin hout hcon hfun=> ?_) (HSteps.cons rfl (fun x W ρ hB hdep hin hout hcon hfun=> ?_) (HSteps.cons rfl (fun x W ρ hB hdep hin hout hcon hfun=> ?_) (HSteps.cons rfl (fun x W ρ hB hdep hin hout hcon hfun=> ?_) (HSteps.nil (Nat.le_refl _)))))))))
     · skip
       have e3:=hout 3 (by decide)
       change ρ (.tmp 3)= .pointer (some ⟨w.heap.size+1,0,none⟩) at e3
       clear hdep hin hout
       refine Stepped.val ?_ rfl
       go_simp
     · skip
       have d0:=hdep ⟨0,.data⟩ (by simp) rfl
       have e29:=hin 0 29 rfl
       rw [show x 0=_ from d0] at e29
       have z0:=cell_below hB c0
       clear hdep hin hout
       refine Stepped.val ?_ rfl
       go_simp
     · skip
       have d1:=hdep ⟨1,.data⟩ (by simp) rfl
       have e30:=hin 1 30 rfl
       rw [show x 1=_ from d1] at e30
       clear hdep hin hout
       refine Stepped.call (f:=15) (args:=#[.int .i64 c,.int .i64 3]) ?_ ?_
       · go_simp
       · skip
         refine(HPn0.out _).mono ?_
         rintro e W' ⟨rfl,rfl⟩
         exact⟨_,rfl,Below.refl _ _,rfl⟩
     · skip
       have e3:=hout 3 (by decide)
       change ρ (.tmp 3)= .pointer (some ⟨w.heap.size+1,0,none⟩) at e3
       clear hdep hin hout
       refine Stepped.val ?_ rfl
       go_simp
     · skip
       have d3:=hdep ⟨3,.data⟩ (by simp) rfl
       have e32:=hin 3 32 rfl
       rw [show x 3=_ from d3] at e32
       have z1:=cell_below hB c1
       clear hdep hin hout
       refine Stepped.val ?_ rfl
       go_simp
     · skip
       have d4:=hdep ⟨4,.data⟩ (by simp) rfl
       have e33:=hin 4 33 rfl
       rw [show x 4=_ from d4] at e33
       clear hdep hin hout
       refine Stepped.call (f:=15) (args:=#[.int .i64 d,.int .i64 1073741825]) ?_ ?_
       · go_simp
       · skip
         refine(HPn1.out _).mono ?_
         rintro e W' ⟨rfl,rfl⟩
         exact⟨_,rfl,Below.refl _ _,rfl⟩
     · skip
       have d2:=hdep ⟨2,.data⟩ (by simp) rfl
       have e31:=hin 2 31 rfl
       rw [show x 2=_ from d2] at e31
       have d5:=hdep ⟨5,.data⟩ (by simp) rfl
       have e34:=hin 5 34 rfl
       rw [show x 5=_ from d5] at e34
       clear hdep hin hout
       refine Stepped.val ?_ rfl
       go_simp
     · skip
       clear hdep hin hout
       refine Stepped.grow (v:= .pointer (some ⟨W.heap.size,0,none⟩)) (w':=W.alloc (.cells #[.string ⟨#[]⟩,.int .i64 0,.int .i64 0,.int .i64 0,.int .i64 0] 27)) ?_ ((Below.refl _ _).alloc (Nat.le_refl _) _) ⟨_,rfl,hB.size,Row.new W _ _⟩
       go_simp
   · intro x W hB hR
     have d0:=hR 0 (by decide)
     have d1:=hR 1 (by decide)
     have d2:=hR 2 (by decide)
     have d3:=hR 3 (by decide)
     have d4:=hR 4 (by decide)
     have d5:=hR 5 (by decide)
     have d6:=hR 6 (by decide)
     obtain⟨g,d7,hg,hrow⟩:=hR 7 (by decide)
     clear hR
     change x 0=_ at d0
     change x 1=_ at d1
     change x 2=_ at d2
     change x 3=_ at d3
     change x 4=_ at d4
     change x 5=_ at d5
     change x 6=_ at d6
     change x 7=_ at d7
     have z0:W.cell? ⟨g,0,none⟩=some (.string ⟨#[]⟩):=hrow.cell 0
     have f0:=hrow.frozen 0
     have z1:W.cell? ⟨g,1,none⟩=some (.int .i64 0):=hrow.cell 1
     have f1:=hrow.frozen 1
     have z2:W.cell? ⟨g,2,none⟩=some (.int .i64 0):=hrow.cell 2
     have f2:=hrow.frozen 2
     have z3:W.cell? ⟨g,3,none⟩=some (.int .i64 0):=hrow.cell 3
     have f3:=hrow.frozen 3
     have z4:W.cell? ⟨g,4,none⟩=some (.int .i64 0):=hrow.cell 4
     have f4:=hrow.frozen 4
     simp only [putAll,Act.put,d0,d1,d2,d3,d4,d5,d6,d7]
     refine wpAny_ready (rs:=[8]) (by kernel_rfl) (by simp) ?_
     refine AllReady.cons rfl (fun K hK=> ?_) AllReady.nil
     go_simp
     refine hK _ _ ?_
     clear hK K
     refine wpAny_done (by kernel_rfl) ?_ _
     go_wp2
     go_meet
     exact⟨g,rfl,((((hrow.store 0 _).store 1 _).store 2 _).store 3 _).store 4 _,((((((below_drew hB)).setCell (p:=⟨g,0,none⟩) hg _).setCell (p:=⟨g,1,none⟩) hg _).setCell (p:=⟨g,2,none⟩) hg _).setCell (p:=⟨g,3,none⟩) hg _).setCell (p:=⟨g,4,none⟩) hg _⟩
  case rest=>
   obtain⟨w4,rfl⟩:∃ w4,w4=wc:=⟨_,rfl⟩
   obtain⟨g',rfl,hg',hbx'⟩:=hcut
   have p4:=Hg.out.below hbx' Hg.out.lt
   have hb04:=hb02.trans (hbx'.mono hb02.size)
   have k0:w4.cell? ⟨g,0,none⟩=some (.string ⟨#[111,110,101]⟩):=p4.cell 0
   have k1:w4.cell? ⟨g,1,none⟩=some (.int .i64 0):=p4.cell 1
   have k2:w4.cell? ⟨g,2,none⟩=some (.int .i64 0):=p4.cell 2
   have k3:w4.cell? ⟨g,3,none⟩=some (.int .i64 (m0:Int)):=p4.cell 3
   have k4:w4.cell? ⟨g,4,none⟩=some (.int .i64 (m1:Int)):=p4.cell 4
   have Hp:=Lib.hid p4
   have Hq:=Lib.hid hg'
   have Hb4:=Lib.hid hb04
   clear p4 hg' hb04 hbx' hb02 q2 c0 c1 Hg HPn0 HPn1
   go_wp2_with fail
   refine(HA.out _).mono ?_
   rintro e w5 ⟨rfl,hb5⟩
   have q5:=Hq.out.below hb5 Hq.out.lt
   have Hp:=Lib.hid (Hp.out.below hb5 Hp.out.lt)
   have Hb5:=Lib.hid (below_seq Hb4.out hb5)
   clear k0 k1 k2 k3 k4 hb5 Hb4 HA Hq
   have k0:w5.cell? ⟨g',0,none⟩=some (.string ⟨#[]⟩):=q5.cell 0
   have k1:w5.cell? ⟨g',1,none⟩=some (.int .i64 0):=q5.cell 1
   have k2:w5.cell? ⟨g',2,none⟩=some (.int .i64 7):=q5.cell 2
   have k3:w5.cell? ⟨g',3,none⟩=some (.int .i64 (n0:Int)):=q5.cell 3
   have k4:w5.cell? ⟨g',4,none⟩=some (.int .i64 (n1:Int)):=q5.cell 4
   have Hq:=Lib.hid q5
   clear q5
   go_wp2_with fail
   refine(HB.out _).mono ?_
   rintro e w6 ⟨rfl,hb6⟩
   have Hp:=Lib.hid (Hp.out.below hb6 Hp.out.lt)
   have Hq:=Lib.hid (Hq.out.below hb6 Hq.out.lt)
   have Hb6:=Lib.hid (below_seq Hb5.out hb6)
   clear k0 k1 k2 k3 k4 hb6 Hb5 HB
   go_wp2_with fail
   refine(HRd.out _).mono ?_
   rintro e w7 ⟨rfl,hb7⟩
   have Hp:=Lib.hid (Hp.out.below hb7 Hp.out.lt)
   have Hq:=Lib.hid (Hq.out.below hb7 Hq.out.lt)
   have Hb7:=Lib.hid (below_seq Hb6.out hb7)
   clear hb7 Hb6 HRd
   go_wp2_with fail
   refine(HO1.out _).mono ?_
   rintro e w8 ⟨rfl,rfl⟩
   go_wp2_with fail
   refine(HO2.out _).mono ?_
   rintro e w9 ⟨rfl,rfl⟩
   have k0:w9.cell? ⟨g,0,none⟩=some (.string ⟨#[111,110,101]⟩):=Hp.out.cell 0
   have k1:w9.cell? ⟨g,1,none⟩=some (.int .i64 0):=Hp.out.cell 1
   have k2:w9.cell? ⟨g,2,none⟩=some (.int .i64 0):=Hp.out.cell 2
   have k3:w9.cell? ⟨g,3,none⟩=some (.int .i64 (m0:Int)):=Hp.out.cell 3
   have k4:w9.cell? ⟨g,4,none⟩=some (.int .i64 (m1:Int)):=Hp.out.cell 4
   have l0:w9.cell? ⟨g',0,none⟩=some (.string ⟨#[]⟩):=Hq.out.cell 0
   have l1:w9.cell? ⟨g',1,none⟩=some (.int .i64 0):=Hq.out.cell 1
   have l2:w9.cell? ⟨g',2,none⟩=some (.int .i64 7):=Hq.out.cell 2
   have l3:w9.cell? ⟨g',3,none⟩=some (.int .i64 (n0:Int)):=Hq.out.cell 3
   have l4:w9.cell? ⟨g',4,none⟩=some (.int .i64 (n1:Int)):=Hq.out.cell 4
   have arm:∀(q r:Bool),decide (m0=n0)=q→decide (m1=n1)=r→(A.toList == B.toList)=(q && r)∧((m0:Int) == (n0:Int))=q∧((m1:Int) == (n1:Int))=r:=by
    intro q r h2 h3
    refine⟨by rw [Hcmp.out,h2,h3],?_,?_⟩
    · rw [← h2,Bool.eq_iff_iff];simp;omega
    · rw [← h3,Bool.eq_iff_iff];simp;omega
   obtain⟨q,hq⟩:∃ q,decide (m0=n0)=q:=⟨_,rfl⟩
   obtain⟨r,hr⟩:∃ r,decide (m1=n1)=r:=⟨_,rfl⟩
   obtain⟨b2,b3,b4⟩:=arm q r hq hr
   clear arm hq hr Hcmp Hp Hq HO1 HO2
   cases q <;> cases r
   all_goals
    go_wp2
    go_ret
    exact⟨rfl,Hb7.out⟩
theorem own:ownKnob Tryz.prog.godebug=none:=by kernel_rfl
theorem lay:laidOutB Tryz.prog=true:=by kernel_rfl
theorem lifted (os:Os) (started:os.Started) (H:Type) (enc:TypeId × Value→H):
 ReturnsInHanded {} Tryz.checked os 5 .any (Rows.planBackSpec.pre6 enc Tryz.prog Tryz.f5 Rows.planBackRow.domain false) (Rows.planBackSpec.post enc Tryz.prog Tryz.f5 false true false false):=by
 refine returnsInHanded_of_change_shaped (C:=Tryz.checked) own started (by kernel_rfl) Tryz.func5
  (ChangeSpec.witness6 (enc:=enc) (C:=Tryz.checked) false ⟨#[],#[.agg #[.int .i64 0,.int .i64 0],.agg #[.int .i64 0,.int .i64 0]],[]⟩ 8 (by kernel_rfl) (by kernel_rfl) (by kernel_rfl) (by kernel_rfl)) ?_
 intro W base args ds gs before hval0 hW hcnd hsz0 hsh _
 have hval:∀(j:Nat) t v,Tryz.f5.params[j]? =some t→args[j]? =some v→Value.okWide Tryz.prog W .any base t v:=hval0
 have hsz:(DataW.weightsEach Tryz.prog (Tryz.f5.params.toList++Rows.planBackSpec.plain.varTypes Tryz.prog) (ds++gs)).all (· ≤reachBytes)=true:=hsz0
 have hW':=hW
 obtain⟨p,q,hA0,hV,rfl,hfz,hnd⟩:=hW
 have hA:DataW.TrodAll enc Tryz.prog W 0 (fun _=>true) true Tryz.f5.params.toList args.toList ds p:=hA0
 rw [Tryz.params5] at hA hval hsz
 obtain⟨v0,vs0,d0,ds0,p0,q0,hargs,rfl,rfl,h0,r0⟩:=trodAll_cons hA
 obtain⟨v1,vs1,d1,ds1,p1,q1,rfl,rfl,rfl,h1,r1⟩:=trodAll_cons r0
 obtain⟨rfl,rfl,rfl⟩:=trodAll_nil r1
 obtain rfl:args=#[v0,v1]:=by cases args;simp_all
 obtain⟨rfl,rfl⟩:=trodVars_none hV
 obtain⟨a0,c0,rfl,rfl,rfl,w0,u0⟩:=open_pair ⟨Tryz.underlying72,by kernel_rfl,by kernel_rfl,by kernel_rfl⟩ Tryz.underlying3 (hval 0 72 v0 rfl rfl) h0
 obtain⟨a1,c1,rfl,rfl,rfl,w1,u1⟩:=open_pair ⟨Tryz.underlying72,by kernel_rfl,by kernel_rfl,by kernel_rfl⟩ Tryz.underlying3 (hval 1 72 v1 rfl rfl) h1
 obtain⟨kw,hkw⟩:=Sha.words_of hsh
 letI:Sha.Words:=⟨kw⟩
 have hRI:Sha.RoundIn W:=hkw
 refine(walk a0 (bounds_i64 w0) c0 (bounds_i64 u0) a1 (bounds_i64 w1) c1 (bounds_i64 u1) W hRI).mono fun e W' ⟨he,hg⟩=> ?_
 subst he
 have hts:∀ t∈Tryz.f5.params.toList,Tryz.prog.readableRec t=true∧t<Tryz.prog.types.size:=by
  rw [Tryz.params5]
  intro t ht
  simp only [List.mem_cons,List.not_mem_nil,or_false] at ht
  rcases ht with rfl | rfl <;> exact⟨by kernel_rfl,of_decide_eq_true (by kernel_rfl)⟩
 exact⟨_,rfl,post_true lay hts (by kernel_rfl) Tryz.underlying4 rfl rfl hW' hg⟩
end Go.Proofs.YtpnbkfboneabaaaGreat.planBack
