import Derived.Test.YtpnbkfboneabaaaGreatAW
import Derived.Test.YtpnbkfboneabaaaGreatRows
import Derived.HandedShaped
set_option maxRecDepth 100000
set_option maxHeartbeats 4000000
namespace Go.Proofs.YtpnbkfboneabaaaGreat
theorem Rise.at {l:List Int} (h:Rise l) {i j:Nat} {x y:Int} (hij:i<j) (hx:l[i]? =some x) (hy:l[j]? =some y):x<y:=by
 obtain⟨h1,rfl⟩:=List.getElem?_eq_some_iff.1 hx
 obtain⟨h2,rfl⟩:=List.getElem?_eq_some_iff.1 hy
 exact List.pairwise_iff_getElem.1 h i j h1 h2 hij
theorem withN_split {l:List Int} {n:Int} {k:Nat} (h:Rise l) (hlo:∀ x∈(without l n).take k,x<n) (hhi:∀ x∈(without l n).drop k,n<x):(without l n).take k++n::(without l n).drop k=withN l n:=by
 refine rise_ext ?_ (withN_rise _ _) fun x=> ?_
 · have hw:=without_rise h n
   have h1:Rise ((without l n).take k):=List.Pairwise.sublist (List.take_sublist _ _) hw
   have h2:Rise ((without l n).drop k):=List.Pairwise.sublist (List.drop_sublist _ _) hw
   refine h1.append (List.pairwise_cons.2 ⟨hhi,h2⟩) fun x hx y hy=> ?_
   rcases List.mem_cons.1 hy with rfl | hy
   · exact hlo x hx
   · have:=hlo x hx
     have:=hhi y hy
     omega
 · rw [mem_withN,List.mem_append,List.mem_cons]
   have h1:x∈without l n ↔ x∈(without l n).take k∨x∈(without l n).drop k:=by
    rw [← List.mem_append,List.take_append_drop]
   constructor
   · rintro (hx | rfl | hx)
     · exact .inr (mem_without.1 (h1.2 (.inl hx))).1
     · exact .inl rfl
     · exact .inr (mem_without.1 (h1.2 (.inr hx))).1
   · rintro (rfl | hx)
     · exact .inr (.inl rfl)
     · by_cases he:x=n
       · exact .inr (.inl he)
       · rcases h1.1 (mem_without.2 ⟨hx,he⟩) with h2 | h2
         · exact .inl h2
         · exact .inr (.inr h2)
end Go.Proofs.YtpnbkfboneabaaaGreat
namespace Go.Proofs.YtpnbkfboneabaaaGreat
open Go.RowKit
def words9:List ByteArray:=[⟨#[]⟩,⟨#[97]⟩,⟨#[97,98]⟩,⟨#[97,98,99]⟩,⟨#[119,111,114,100]⟩,⟨#[111,116,104,101,114,119,111,114,100]⟩]
def wordOf (c:Int):ByteArray:=words9.getD (pickOf c 6).toNat ⟨#[]⟩
theorem Word_any (c:Int) (hc: -9223372036854775808≤c∧c≤9223372036854775807) (w:World):
 Calls Tryz.prog 39 #[.int .i64 c] w fun e w'=>e= .returned (.string (wordOf c))∧Below w.heap.size w w':=by
 have hP:=fun W=>pick9_any c 6 hc (by decide) W
 obtain⟨k,hk,hk6⟩:∃ k:Nat,pickOf c 6=(k:Int)∧k<6:=pick_nat c 6 (by decide)
 unfold wordOf
 rw [hk] at hP ⊢
 have hb0:Below w.heap.size w (w.alloc (.cells #[.string ⟨#[]⟩,.string ⟨#[97]⟩,.string ⟨#[97,98]⟩,.string ⟨#[97,98,99]⟩,.string ⟨#[119,111,114,100]⟩,.string ⟨#[111,116,104,101,114,119,111,114,100]⟩] 9)):=(Below.refl _ w).alloc (Nat.le_refl _) _
 have HP:=Lib.hid hP
 clear hP hk hc
 rcases k with _ | _ | _ | _ | _ | _ | k
 all_goals first
  | omega
  | (go_enter Tryz.func39,Tryz.ntmps39
     go_wp2_with fail
     refine(HP.out _).mono ?_
     rintro e w1 ⟨rfl,rfl⟩
     go_wp2
     go_ret
     exact⟨rfl,hb0⟩)
namespace Pln
theorem prs_length [Sha.Words] (o:Orc) (l:List Pst):(prs o l).length=l.length:=by
 have:=congrArg List.length (prs_fst o l)
 simpa using this
end Pln
end Go.Proofs.YtpnbkfboneabaaaGreat
namespace Go.Proofs.YtpnbkfboneabaaaGreat
open Go.ChangeShapes Go.WideShapes Go.ChangeAt Go.RowKit Go.WideMaps
theorem mapM_mem {α β:Type} {f:α→Option β}:∀(l:List α) (ys:List β),l.mapM f=some ys→∀ x∈l,∃ y,f x=some y
 | [],_,_,x,hx=>by cases hx
 | a::l,ys,h,x,hx=>by
   rw [List.mapM_cons] at h
   simp only [bind,Option.bind_eq_some_iff,pure] at h
   obtain⟨y,hy,zs,hz,_⟩:=h
   rcases List.mem_cons.1 hx with rfl | hx
   · exact⟨y,hy⟩
   · exact mapM_mem l zs hz x hx
theorem trod_arr_ints {H:Type} {enc:TypeId × Value→H} {P:Program} {W:World} {base:Nat} {sp:Nat→Bool} {held:Bool} {k e:TypeId} {n:Nat} {q:IntKind} (hu:P.underlying k=some (.array n e)) (one:P.cellsOf e=1) (size:P.cellsOf k=n)
 (he:P.underlying e=some (.int q)) {fuel:Nat} {cs:List Value} {x:DataW H × List MemPlace} (hcs:cs.length=n) (h:DataW.trod enc P W base sp held fuel k cs=some x):
 ∀ j,j<n→∃ z,cs[j]? =some (.int q z)∧(Lit.int q z).wf=true:=by
 intro j hj
 cases fuel with
 | zero=>simp [DataW.trod] at h
 | succ m=>
   rw [DataW.trod_step] at h
   unfold DataW.trodStep at h
   simp only [hu] at h
   rw [if_pos (by rw [size];exact hcs)] at h
   simp only [Option.map_eq_some_iff] at h
   obtain⟨xs,hx,_⟩:=h
   obtain⟨y,hy⟩:=mapM_mem _ _ hx j (List.mem_range.2 hj)
   obtain⟨z,hz,_,wz⟩:=DataW.trod_int he hy
   refine⟨z,?_,wz⟩
   rw [one,Nat.mul_one] at hz
   have h0:((cs.drop j).take 1)[0]? =some (.int q z):=by rw [hz];rfl
   simpa using h0
theorem ints_open {H:Type} {enc:TypeId × Value→H} {P:Program} {w:World} {r:Reach} {b0:Nat} {t e:TypeId} {v:Value} {d:DataW H} {ps:List MemPlace} (ht:P.underlying t=some (.slice e)) (he:P.underlying e=some (.int .i64)) (hc:P.cellsOf e=1)
 (hval:Value.okWide P w r b0 t v) (hd:DataW.Trod enc P w 0 (fun _=>true) true t v d ps):IntsIn v w:=by
 obtain⟨a,len,cap,rfl⟩:=okWide_slice ht hval
 obtain⟨fuel,hf⟩:=hd
 rcases open_ints ht he hc hf with ⟨h,_⟩ | ⟨a',len',cap',zs,h,_,hl,hm,hz,_,hcell,hwf⟩
 · left
   simpa [Value.cells] using h
 · right
   simp only [if_true] at hz
   refine⟨a',len',cap',fun i=>zs.getD i 0,?_,hl,hm,fun i hi=> ?_⟩
   · simpa [Value.cells] using h
   · have hi2:i<zs.length:=by omega
     refine⟨hcell i hi2,?_⟩
     show -9223372036854775808≤zs.getD i 0∧zs.getD i 0≤9223372036854775807
     rw [List.getD_eq_getElem?_getD,List.getElem?_eq_getElem hi2]
     exact bounds_i64 (hwf _ (List.getElem_mem hi2))
def RowsIn (n:Nat) (v:Value) (w:World):Prop:=
 v= .slice none 0 0∨∃(a:Addr) (len cap:Nat) (Z:Nat→Nat→Int),v= .slice (some a) len cap∧len≤cap∧cap≤maxLen∧∀ i,i<len→∀ j,j<n→w.cell? ((a.add (i*n)).add j)=some (.int .i64 (Z i j))∧ -9223372036854775808≤Z i j∧Z i j≤9223372036854775807
theorem rows_open {H:Type} {enc:TypeId × Value→H} {P:Program} {w:World} {r:Reach} {b0:Nat} {t k e:TypeId} {n:Nat} {v:Value} {d:DataW H} {ps:List MemPlace} (ht:P.underlying t=some (.slice k)) (hu:P.underlying k=some (.array n e)) (he:P.underlying e=some (.int .i64)) (one:P.cellsOf e=1) (size:P.cellsOf k=n)
 (hval:Value.okWide P w r b0 t v) (hd:DataW.Trod enc P w 0 (fun _=>true) true t v d ps):RowsIn n v w:=by
 obtain⟨a,len,cap,rfl⟩:=okWide_slice ht hval
 obtain⟨fuel,hf⟩:=hd
 rcases Deep.open_slice ht hf with ⟨h,_⟩ | ⟨a',len',cap',m,q,D,Pl,h,_,hl,hm,hz,_,hx⟩
 · left
   simpa [Value.cells] using h
 · right
   simp only [if_true] at hz
   subst hz
   have each:∀ i,i<m→∃ f:Nat→Int,∀ j,j<n→w.cell? ((a'.add (i*n)).add j)=some (.int .i64 (f j))∧ -9223372036854775808≤f j∧f j≤9223372036854775807:=by
    intro i hi
    obtain⟨cs',h1,h2⟩:=hx i hi
    rw [size] at h1
    obtain⟨_,hlen,hcell⟩:=World.cells?_some h1
    refine Deep.choose_lt (α:=Int) (p:=fun j z=>w.cell? ((a'.add (i*n)).add j)=some (.int .i64 z)∧ -9223372036854775808≤z∧z≤9223372036854775807) (fun j hj=> ?_)
    obtain⟨z,hz,wz⟩:=trod_arr_ints hu one size he hlen h2 j hj
    refine⟨z,?_,bounds_i64 wz⟩
    have:=hcell j hj
    rw [this]
    first | exact hz | simpa using hz
   obtain⟨Z,hZ⟩:=Deep.choose_lt (α:=Nat→Int) each
   refine⟨a',len',m,Z,?_,hl,hm,fun i hi=>hZ i (by omega)⟩
   simpa [Value.cells] using h
end Go.Proofs.YtpnbkfboneabaaaGreat
namespace Go.Proofs.YtpnbkfboneabaaaGreat
open Go.RowKit
def keyB (key:Int):ByteArray:=strOf (List.replicate 32 (pickOf key 256).toNat)
theorem keyB_size (key:Int):(keyB key).size=32:=by
 unfold keyB
 rw [strOf_size,List.length_replicate]
theorem Oracle_any (real:Bool) (key:Int) (hkey: -9223372036854775808≤key∧key≤9223372036854775807) (tb:ByteArray) (p:Nat) (h1:tb.size≤65536) (h2:p≤tb.size) (w:World):
 Calls Tryz.prog 13 #[.bool real,.int .i64 key,.agg #[.string tb,.int .i64 (p:Int)],.slice none 0 0] w fun e w'=>e= .returned (.agg (Orc.vals (if real=true then 1 else 2) (keyB key) tb p (.slice none 0 0) (.slice none 0 0) false))∧Below w.heap.size w w':=by
 have hP:=fun W=>pick9_any key 256 hkey (by decide) W
 obtain⟨b,eb,lb⟩:=pick_nat key 256 (by decide)
 change pickOf key 256=(b:Int) at eb
 have hF:=fun W=>Fresh_any (if real=true then 1 else 2) b tb p h1 h2 W
 unfold keyB
 rw [eb] at hP ⊢
 rw [Int.toNat_natCast]
 obtain⟨K,hK⟩:∃ K,strOf (List.replicate 32 b)=K:=⟨_,rfl⟩
 obtain⟨m,hm⟩:∃ m:Int,(if real=true then 1 else 2)=m:=⟨_,rfl⟩
 rw [hK,hm] at hF ⊢
 have hb256:(b:Int)%256=(b:Int):=by omega
 have hbw:IntKind.u8.wrap (b:Int)=(b:Int):=by rw [IntKind.wrap_u8];omega
 unfold Orc.vals at*
 obtain⟨p0,q0,hb0,hz⟩:=box2 w #[.string tb,.int .i64 (p:Int)] #[.int .i64 0,.string ⟨#[]⟩,.string ⟨#[]⟩,.int .i64 0,.slice none 0 0,.slice none 0 0,.bool false] 23 34
 have HP:=Lib.hid hP
 have HF:=Lib.hid hF
 have c0:=p0.cell 0
 have c1:=p0.cell 1
 change World.cell? _ _=some _ at c0 c1
 obtain⟨W1,hW1⟩:∃ W1,((w.alloc (.cells #[.string tb,.int .i64 (p:Int)] 23)).alloc (.cells #[.int .i64 0,.string ⟨#[]⟩,.string ⟨#[]⟩,.int .i64 0,.slice none 0 0,.slice none 0 0,.bool false] 34))=W1:=⟨_,rfl⟩
 rw [hW1] at p0 q0 hb0 hz c0 c1
 have Hq:=Lib.hid q0
 have Hb:=Lib.hid hb0
 clear hP hF p0 q0 hb0 hK eb h1 h2 hkey
 go_enter Tryz.func13,Tryz.ntmps13
 cases real
 · obtain rfl:m=2:=hm.symm
   clear hm
   go_upto_region 4 with fail
   go_cut [10] from 17 to 22 (fun v wx=>∃ g,v= .pointer (some ⟨g,0,none⟩)∧W1.heap.size≤g∧Row wx g 34 #[.int .i64 2,.string K,.string tb,.int .i64 (p:Int),.slice none 0 0,.slice none 0 0,.bool false]∧Below W1.heap.size W1 wx)
   case first=>
    refine wp_region_any (by kernel_rfl) ?_
    change wpAny _ _ _ _ _ _ _ (World.drew W1)
    refine wpAny_head 7 [17,18,19,20,21,22,10] 1 #[true,true,true,true,true,true,true,false] (fun j v W=>match j with
     | 0=>v= .int .i64 2
     | 1=>v= .int .i64 key
     | 2=>v= .int .i64 (b:Int)
     | 3=>v= .int .u8 (b:Int)
     | 4=>v= .agg #[.string tb,.int .i64 (p:Int)]
     | 5=>v= .agg #[.int .i64 2,.string K,.string tb,.int .i64 (p:Int),.slice none 0 0,.slice none 0 0,.bool false]
     | _=>∃ g,v= .pointer (some ⟨g,0,none⟩)∧W1.heap.size≤g∧Row W g 34 #[.int .i64 0,.string ⟨#[]⟩,.string ⟨#[]⟩,.int .i64 0,.slice none 0 0,.slice none 0 0,.bool false]) (by kernel_rfl) (by kernel_rfl) (by kernel_rfl) (by kernel_rfl) ?_ ?_ ?_
    · intro j hj v W W' h hb
      rcases j with _ | _ | _ | _ | _ | _ | j
      all_goals first
       | exact h
       | (obtain⟨g,h1,h2,h3⟩:=h;exact⟨g,h1,h2,h3.below hb h3.lt⟩)
    · refine HSteps.cons rfl (fun x W ρ hB jj jk jq jx jy=> ?_) (HSteps.cons rfl (fun x W ρ hB jj jk jq jx jy=> ?_) (HSteps.cons rfl (fun x W ρ hB jj jk jq jx jy=> ?_) (HSteps.cons rfl (fun x W ρ hB jj jk jq jx jy=> ?_) (HSteps.cons rfl (fun x W ρ hB jj jk jq jx jy=> ?_) (HSteps.cons rfl (fun x W ρ hB jj jk jq jx jy=> ?_) (HSteps.cons rfl (fun x W ρ hB jj jk jq jx jy=> ?_) (HSteps.nil (Nat.le_refl _))))))))
      · skip
        have e9:=jq 9 (by decide)
        change ρ (.tmp 9)= .int .i64 2 at e9
        clear jj jk jq
        refine Stepped.val ?_ rfl
        go_simp
      · skip
        have e1:=jq 1 (by decide)
        change ρ (.tmp 1)= .int .i64 key at e1
        clear jj jk jq
        refine Stepped.val ?_ rfl
        go_simp
      · skip
        have d1:=jj ⟨1,.data⟩ (by simp) rfl
        have e18:=jk 1 18 rfl
        rw [show x 1=_ from d1] at e18
        clear jj jk jq
        refine Stepped.call (f:=37) (args:=#[.int .i64 key,.int .i64 256]) ?_ ?_
        · go_simp
        · skip
          refine(HP.out _).mono ?_
          rintro e W' ⟨rfl,rfl⟩
          exact⟨_,rfl,Below.refl _ _,rfl⟩
      · skip
        have d2:=jj ⟨2,.data⟩ (by simp) rfl
        have e19:=jk 2 19 rfl
        rw [show x 2=_ from d2] at e19
        clear jj jk jq
        refine Stepped.val ?_ rfl
        go_simp
      · skip
        have e6:=jq 6 (by decide)
        change ρ (.tmp 6)= .pointer (some ⟨w.heap.size,0,none⟩) at e6
        have z0:=cell_below hB c0
        have z1:=cell_below hB c1
        clear jj jk jq
        refine Stepped.val ?_ rfl
        go_simp
      · skip
        have d0:=jj ⟨0,.data⟩ (by simp) rfl
        have e17:=jk 0 17 rfl
        rw [show x 0=_ from d0] at e17
        have d3:=jj ⟨3,.data⟩ (by simp) rfl
        have e20:=jk 3 20 rfl
        rw [show x 3=_ from d3] at e20
        have d4:=jj ⟨4,.data⟩ (by simp) rfl
        have e21:=jk 4 21 rfl
        rw [show x 4=_ from d4] at e21
        clear jj jk jq
        refine Stepped.call (f:=36) (args:=#[.int .i64 2,.int .u8 (b:Int),.agg #[.string tb,.int .i64 (p:Int)]]) ?_ ?_
        · go_simp
        · skip
          refine(HF.out _).mono ?_
          rintro e W' ⟨rfl,hbx⟩
          exact⟨_,rfl,hbx,rfl⟩
      · skip
        clear jj jk jq
        refine Stepped.grow (v:= .pointer (some ⟨W.heap.size,0,none⟩)) (w':=W.alloc (.cells #[.int .i64 0,.string ⟨#[]⟩,.string ⟨#[]⟩,.int .i64 0,.slice none 0 0,.slice none 0 0,.bool false] 34)) ?_ ((Below.refl _ _).alloc (Nat.le_refl _) _) ⟨_,rfl,hB.size,Row.new W _ _⟩
        go_simp
    · intro x W hB hR
      have d0:=hR 0 (by decide)
      have d1:=hR 1 (by decide)
      have d2:=hR 2 (by decide)
      have d3:=hR 3 (by decide)
      have d4:=hR 4 (by decide)
      have d5:=hR 5 (by decide)
      obtain⟨g,d6,hg,hrow⟩:=hR 6 (by decide)
      clear hR
      change x 0=_ at d0
      change x 1=_ at d1
      change x 2=_ at d2
      change x 3=_ at d3
      change x 4=_ at d4
      change x 5=_ at d5
      change x 6=_ at d6
      have z0:W.cell? ⟨g,0,none⟩=some (.int .i64 0):=hrow.cell 0
      have z1:W.cell? ⟨g,1,none⟩=some (.string ⟨#[]⟩):=hrow.cell 1
      have z2:W.cell? ⟨g,2,none⟩=some (.string ⟨#[]⟩):=hrow.cell 2
      have z3:W.cell? ⟨g,3,none⟩=some (.int .i64 0):=hrow.cell 3
      have z4:W.cell? ⟨g,4,none⟩=some (.slice none 0 0):=hrow.cell 4
      have z5:W.cell? ⟨g,5,none⟩=some (.slice none 0 0):=hrow.cell 5
      have z6:W.cell? ⟨g,6,none⟩=some (.bool false):=hrow.cell 6
      have f0:=hrow.frozen 0
      have f1:=hrow.frozen 1
      have f2:=hrow.frozen 2
      have f3:=hrow.frozen 3
      have f4:=hrow.frozen 4
      have f5:=hrow.frozen 5
      have f6:=hrow.frozen 6
      simp only [putAll,Act.put,d0,d1,d2,d3,d4,d5,d6]
      refine wpAny_ready (rs:=[7]) (by kernel_rfl) (by simp) ?_
      refine AllReady.cons rfl (fun K hK=> ?_) AllReady.nil
      go_simp
      refine hK _ _ ?_
      clear hK K
      refine wpAny_done (by kernel_rfl) ?_ _
      go_wp2
      go_meet
      exact⟨g,rfl,hg,(((((((hrow.store 0 _).store 1 _).store 2 _).store 3 _).store 4 _).store 5 _).store 6 _),(((((((below_drew hB).setCell (p:=⟨g,0,none⟩) hg _).setCell (p:=⟨g,1,none⟩) hg _).setCell (p:=⟨g,2,none⟩) hg _).setCell (p:=⟨g,3,none⟩) hg _).setCell (p:=⟨g,4,none⟩) hg _).setCell (p:=⟨g,5,none⟩) hg _).setCell (p:=⟨g,6,none⟩) hg _⟩
   case rest=>
    obtain⟨g,rfl,hg,hrow,hbx⟩:=hcut
    have q1:=Hq.out.below hbx Hq.out.lt
    have hb1:=Hb.out.trans (hbx.mono Hb.out.size)
    have hlt:w.heap.size+1<W1.heap.size:=Hq.out.lt
    have z0:wc.cell? ⟨g,0,none⟩=some (.int .i64 2):=hrow.cell 0
    have z1:wc.cell? ⟨g,1,none⟩=some (.string K):=hrow.cell 1
    have z2:wc.cell? ⟨g,2,none⟩=some (.string tb):=hrow.cell 2
    have z3:wc.cell? ⟨g,3,none⟩=some (.int .i64 (p:Int)):=hrow.cell 3
    have z4:wc.cell? ⟨g,4,none⟩=some (.slice none 0 0):=hrow.cell 4
    have z5:wc.cell? ⟨g,5,none⟩=some (.slice none 0 0):=hrow.cell 5
    have z6:wc.cell? ⟨g,6,none⟩=some (.bool false):=hrow.cell 6
    have e0:wc.cell? ⟨w.heap.size+1,0,none⟩=some (.int .i64 0):=q1.cell 0
    have f0:=q1.frozen 0
    have e1:wc.cell? ⟨w.heap.size+1,1,none⟩=some (.string ⟨#[]⟩):=q1.cell 1
    have f1:=q1.frozen 1
    have e2:wc.cell? ⟨w.heap.size+1,2,none⟩=some (.string ⟨#[]⟩):=q1.cell 2
    have f2:=q1.frozen 2
    have e3:wc.cell? ⟨w.heap.size+1,3,none⟩=some (.int .i64 0):=q1.cell 3
    have f3:=q1.frozen 3
    have e4:wc.cell? ⟨w.heap.size+1,4,none⟩=some (.slice none 0 0):=q1.cell 4
    have f4:=q1.frozen 4
    have e5:wc.cell? ⟨w.heap.size+1,5,none⟩=some (.slice none 0 0):=q1.cell 5
    have f5:=q1.frozen 5
    have e6:wc.cell? ⟨w.heap.size+1,6,none⟩=some (.bool false):=q1.cell 6
    have f6:=q1.frozen 6
    clear c0 c1 hbx HP HF hW1
    have Hrow:=Lib.hid hrow
    have Hq1:=Lib.hid q1
    have Hb1:=Lib.hid hb1
    clear hrow q1 hb1
    go_wp2
    go_loopw [11] (fun vi wr=>vi= .int .i64 0∧wr=wc) (fun _ _=>0)
    case atStart=>exact⟨rfl,rfl⟩
    case round=>
     obtain⟨rfl,rfl⟩:=hrel
     go_wp2
     refine bodyPost_ret (results_cell_row rfl _ _ (w.heap.size+1) 34 #[.int .i64 2,.string K,.string tb,.int .i64 (p:Int),.slice none 0 0,.slice none 0 0,.bool false] (0,0) _ rfl (((((((Hq1.out.store 0 _).store 1 _).store 2 _).store 3 _).store 4 _).store 5 _).store 6 _) Tryz.underlying34 rfl (by kernel_rfl)) rfl ⟨rfl,?_⟩
     exact((((((Hb1.out.setCell (p:=⟨w.heap.size+1,0,none⟩) (Nat.le_succ _) _).setCell (p:=⟨w.heap.size+1,1,none⟩) (Nat.le_succ _) _).setCell (p:=⟨w.heap.size+1,2,none⟩) (Nat.le_succ _) _).setCell (p:=⟨w.heap.size+1,3,none⟩) (Nat.le_succ _) _).setCell (p:=⟨w.heap.size+1,4,none⟩) (Nat.le_succ _) _).setCell (p:=⟨w.heap.size+1,5,none⟩) (Nat.le_succ _) _).setCell (p:=⟨w.heap.size+1,6,none⟩) (Nat.le_succ _) _
 · obtain rfl:m=1:=hm.symm
   clear hm
   go_upto_region 4 with fail
   go_cut [10] from 17 to 22 (fun v wx=>∃ g,v= .pointer (some ⟨g,0,none⟩)∧W1.heap.size≤g∧Row wx g 34 #[.int .i64 1,.string K,.string tb,.int .i64 (p:Int),.slice none 0 0,.slice none 0 0,.bool false]∧Below W1.heap.size W1 wx)
   case first=>
    refine wp_region_any (by kernel_rfl) ?_
    change wpAny _ _ _ _ _ _ _ (World.drew W1)
    refine wpAny_head 7 [17,18,19,20,21,22,10] 1 #[true,true,true,true,true,true,true,false] (fun j v W=>match j with
     | 0=>v= .int .i64 1
     | 1=>v= .int .i64 key
     | 2=>v= .int .i64 (b:Int)
     | 3=>v= .int .u8 (b:Int)
     | 4=>v= .agg #[.string tb,.int .i64 (p:Int)]
     | 5=>v= .agg #[.int .i64 1,.string K,.string tb,.int .i64 (p:Int),.slice none 0 0,.slice none 0 0,.bool false]
     | _=>∃ g,v= .pointer (some ⟨g,0,none⟩)∧W1.heap.size≤g∧Row W g 34 #[.int .i64 0,.string ⟨#[]⟩,.string ⟨#[]⟩,.int .i64 0,.slice none 0 0,.slice none 0 0,.bool false]) (by kernel_rfl) (by kernel_rfl) (by kernel_rfl) (by kernel_rfl) ?_ ?_ ?_
    · intro j hj v W W' h hb
      rcases j with _ | _ | _ | _ | _ | _ | j
      all_goals first
       | exact h
       | (obtain⟨g,h1,h2,h3⟩:=h;exact⟨g,h1,h2,h3.below hb h3.lt⟩)
    · refine HSteps.cons rfl (fun x W ρ hB jj jk jq jx jy=> ?_) (HSteps.cons rfl (fun x W ρ hB jj jk jq jx jy=> ?_) (HSteps.cons rfl (fun x W ρ hB jj jk jq jx jy=> ?_) (HSteps.cons rfl (fun x W ρ hB jj jk jq jx jy=> ?_) (HSteps.cons rfl (fun x W ρ hB jj jk jq jx jy=> ?_) (HSteps.cons rfl (fun x W ρ hB jj jk jq jx jy=> ?_) (HSteps.cons rfl (fun x W ρ hB jj jk jq jx jy=> ?_) (HSteps.nil (Nat.le_refl _))))))))
      · skip
        have e9:=jq 9 (by decide)
        change ρ (.tmp 9)= .int .i64 1 at e9
        clear jj jk jq
        refine Stepped.val ?_ rfl
        go_simp
      · skip
        have e1:=jq 1 (by decide)
        change ρ (.tmp 1)= .int .i64 key at e1
        clear jj jk jq
        refine Stepped.val ?_ rfl
        go_simp
      · skip
        have d1:=jj ⟨1,.data⟩ (by simp) rfl
        have e18:=jk 1 18 rfl
        rw [show x 1=_ from d1] at e18
        clear jj jk jq
        refine Stepped.call (f:=37) (args:=#[.int .i64 key,.int .i64 256]) ?_ ?_
        · go_simp
        · skip
          refine(HP.out _).mono ?_
          rintro e W' ⟨rfl,rfl⟩
          exact⟨_,rfl,Below.refl _ _,rfl⟩
      · skip
        have d2:=jj ⟨2,.data⟩ (by simp) rfl
        have e19:=jk 2 19 rfl
        rw [show x 2=_ from d2] at e19
        clear jj jk jq
        refine Stepped.val ?_ rfl
        go_simp
      · skip
        have e6:=jq 6 (by decide)
        change ρ (.tmp 6)= .pointer (some ⟨w.heap.size,0,none⟩) at e6
        have z0:=cell_below hB c0
        have z1:=cell_below hB c1
        clear jj jk jq
        refine Stepped.val ?_ rfl
        go_simp
      · skip
        have d0:=jj ⟨0,.data⟩ (by simp) rfl
        have e17:=jk 0 17 rfl
        rw [show x 0=_ from d0] at e17
        have d3:=jj ⟨3,.data⟩ (by simp) rfl
        have e20:=jk 3 20 rfl
        rw [show x 3=_ from d3] at e20
        have d4:=jj ⟨4,.data⟩ (by simp) rfl
        have e21:=jk 4 21 rfl
        rw [show x 4=_ from d4] at e21
        clear jj jk jq
        refine Stepped.call (f:=36) (args:=#[.int .i64 1,.int .u8 (b:Int),.agg #[.string tb,.int .i64 (p:Int)]]) ?_ ?_
        · go_simp
        · skip
          refine(HF.out _).mono ?_
          rintro e W' ⟨rfl,hbx⟩
          exact⟨_,rfl,hbx,rfl⟩
      · skip
        clear jj jk jq
        refine Stepped.grow (v:= .pointer (some ⟨W.heap.size,0,none⟩)) (w':=W.alloc (.cells #[.int .i64 0,.string ⟨#[]⟩,.string ⟨#[]⟩,.int .i64 0,.slice none 0 0,.slice none 0 0,.bool false] 34)) ?_ ((Below.refl _ _).alloc (Nat.le_refl _) _) ⟨_,rfl,hB.size,Row.new W _ _⟩
        go_simp
    · intro x W hB hR
      have d0:=hR 0 (by decide)
      have d1:=hR 1 (by decide)
      have d2:=hR 2 (by decide)
      have d3:=hR 3 (by decide)
      have d4:=hR 4 (by decide)
      have d5:=hR 5 (by decide)
      obtain⟨g,d6,hg,hrow⟩:=hR 6 (by decide)
      clear hR
      change x 0=_ at d0
      change x 1=_ at d1
      change x 2=_ at d2
      change x 3=_ at d3
      change x 4=_ at d4
      change x 5=_ at d5
      change x 6=_ at d6
      have z0:W.cell? ⟨g,0,none⟩=some (.int .i64 0):=hrow.cell 0
      have z1:W.cell? ⟨g,1,none⟩=some (.string ⟨#[]⟩):=hrow.cell 1
      have z2:W.cell? ⟨g,2,none⟩=some (.string ⟨#[]⟩):=hrow.cell 2
      have z3:W.cell? ⟨g,3,none⟩=some (.int .i64 0):=hrow.cell 3
      have z4:W.cell? ⟨g,4,none⟩=some (.slice none 0 0):=hrow.cell 4
      have z5:W.cell? ⟨g,5,none⟩=some (.slice none 0 0):=hrow.cell 5
      have z6:W.cell? ⟨g,6,none⟩=some (.bool false):=hrow.cell 6
      have f0:=hrow.frozen 0
      have f1:=hrow.frozen 1
      have f2:=hrow.frozen 2
      have f3:=hrow.frozen 3
      have f4:=hrow.frozen 4
      have f5:=hrow.frozen 5
      have f6:=hrow.frozen 6
      simp only [putAll,Act.put,d0,d1,d2,d3,d4,d5,d6]
      refine wpAny_ready (rs:=[7]) (by kernel_rfl) (by simp) ?_
      refine AllReady.cons rfl (fun K hK=> ?_) AllReady.nil
      go_simp
      refine hK _ _ ?_
      clear hK K
      refine wpAny_done (by kernel_rfl) ?_ _
      go_wp2
      go_meet
      exact⟨g,rfl,hg,(((((((hrow.store 0 _).store 1 _).store 2 _).store 3 _).store 4 _).store 5 _).store 6 _),(((((((below_drew hB).setCell (p:=⟨g,0,none⟩) hg _).setCell (p:=⟨g,1,none⟩) hg _).setCell (p:=⟨g,2,none⟩) hg _).setCell (p:=⟨g,3,none⟩) hg _).setCell (p:=⟨g,4,none⟩) hg _).setCell (p:=⟨g,5,none⟩) hg _).setCell (p:=⟨g,6,none⟩) hg _⟩
   case rest=>
    obtain⟨g,rfl,hg,hrow,hbx⟩:=hcut
    have q1:=Hq.out.below hbx Hq.out.lt
    have hb1:=Hb.out.trans (hbx.mono Hb.out.size)
    have hlt:w.heap.size+1<W1.heap.size:=Hq.out.lt
    have z0:wc.cell? ⟨g,0,none⟩=some (.int .i64 1):=hrow.cell 0
    have z1:wc.cell? ⟨g,1,none⟩=some (.string K):=hrow.cell 1
    have z2:wc.cell? ⟨g,2,none⟩=some (.string tb):=hrow.cell 2
    have z3:wc.cell? ⟨g,3,none⟩=some (.int .i64 (p:Int)):=hrow.cell 3
    have z4:wc.cell? ⟨g,4,none⟩=some (.slice none 0 0):=hrow.cell 4
    have z5:wc.cell? ⟨g,5,none⟩=some (.slice none 0 0):=hrow.cell 5
    have z6:wc.cell? ⟨g,6,none⟩=some (.bool false):=hrow.cell 6
    have e0:wc.cell? ⟨w.heap.size+1,0,none⟩=some (.int .i64 0):=q1.cell 0
    have f0:=q1.frozen 0
    have e1:wc.cell? ⟨w.heap.size+1,1,none⟩=some (.string ⟨#[]⟩):=q1.cell 1
    have f1:=q1.frozen 1
    have e2:wc.cell? ⟨w.heap.size+1,2,none⟩=some (.string ⟨#[]⟩):=q1.cell 2
    have f2:=q1.frozen 2
    have e3:wc.cell? ⟨w.heap.size+1,3,none⟩=some (.int .i64 0):=q1.cell 3
    have f3:=q1.frozen 3
    have e4:wc.cell? ⟨w.heap.size+1,4,none⟩=some (.slice none 0 0):=q1.cell 4
    have f4:=q1.frozen 4
    have e5:wc.cell? ⟨w.heap.size+1,5,none⟩=some (.slice none 0 0):=q1.cell 5
    have f5:=q1.frozen 5
    have e6:wc.cell? ⟨w.heap.size+1,6,none⟩=some (.bool false):=q1.cell 6
    have f6:=q1.frozen 6
    clear c0 c1 hbx HP HF hW1
    have Hrow:=Lib.hid hrow
    have Hq1:=Lib.hid q1
    have Hb1:=Lib.hid hb1
    clear hrow q1 hb1
    go_wp2
    go_loopw [11] (fun vi wr=>vi= .int .i64 0∧wr=wc) (fun _ _=>0)
    case atStart=>exact⟨rfl,rfl⟩
    case round=>
     obtain⟨rfl,rfl⟩:=hrel
     go_wp2
     refine bodyPost_ret (results_cell_row rfl _ _ (w.heap.size+1) 34 #[.int .i64 1,.string K,.string tb,.int .i64 (p:Int),.slice none 0 0,.slice none 0 0,.bool false] (0,0) _ rfl (((((((Hq1.out.store 0 _).store 1 _).store 2 _).store 3 _).store 4 _).store 5 _).store 6 _) Tryz.underlying34 rfl (by kernel_rfl)) rfl ⟨rfl,?_⟩
     exact((((((Hb1.out.setCell (p:=⟨w.heap.size+1,0,none⟩) (Nat.le_succ _) _).setCell (p:=⟨w.heap.size+1,1,none⟩) (Nat.le_succ _) _).setCell (p:=⟨w.heap.size+1,2,none⟩) (Nat.le_succ _) _).setCell (p:=⟨w.heap.size+1,3,none⟩) (Nat.le_succ _) _).setCell (p:=⟨w.heap.size+1,4,none⟩) (Nat.le_succ _) _).setCell (p:=⟨w.heap.size+1,5,none⟩) (Nat.le_succ _) _).setCell (p:=⟨w.heap.size+1,6,none⟩) (Nat.le_succ _) _
theorem ints_below {v:Value} {w W:World} (h:IntsIn v w) (hb:Below w.heap.size w W):IntsIn v W:=by
 rcases h with h | ⟨a,len,cap,Z,h0,h1,h2,h3⟩
 · exact .inl h
 · exact .inr ⟨a,len,cap,Z,h0,h1,h2,fun i hi=>⟨cell_below hb (h3 i hi).1,(h3 i hi).2⟩⟩
theorem StrIn.below {W W':World} {v:Value} {l:List ByteArray} (h:StrIn W v l) (hb:Below W.heap.size W W'):StrIn W' v l:=by
 obtain⟨ao,cap,hv,hl,hc⟩:=h
 refine⟨ao,cap,hv,hl,fun i s hs=> ?_⟩
 obtain⟨a,ha,h1⟩:=hc i s hs
 exact⟨a,ha,cell_below hb h1⟩
namespace Pln
theorem ces_in [Sha.Words]:∀ {l:List Pst} {o:Orc},o.Good→Fits o l→∀(i:Nat) (x:Pst × ByteArray) (c:ByteArray),(prs o l)[i]? =some x→(ces o l)[i]? =some c→(x.2,x.1.tx,c)∈(all o l).d.cl
 | [],_,_,_,i,x,c,hx,_=>by simp [prs] at hx
 | p::l,o,hg,h,i,x,c,hx,hc=>by
   have hg2:=(one_good hg h.1).2.1
   rw [prs] at hx
   rw [ces] at hc
   cases i with
   | zero=>
     simp only [List.getElem?_cons_zero,Option.some.injEq] at hx hc
     subst hx
     subst hc
     exact(all_keeps hg2 h.2).2 _ (one_in hg h.1).2.1
   | succ i=>
     simp only [List.getElem?_cons_succ] at hx hc
     exact ces_in hg2 h.2 i x c hx hc
theorem one_boxed [Sha.Words] {o:Orc} {p:Pst} (hg:o.Good) (h:Fit2 o p) (hb:Boxed o):Boxed (one o p):=by
 intro hm c hc
 have hm2:o.m=1:=hm
 have s1:=Orc.ask_step hg p.q h.1.1.q h.1.2.1 h.1.2.2
 have s2:=Orc.put_step s1.1 (lb o p) p.tx s1.2.1 p.tx_size (by rw [s1.2.2.2.2.1];exact h.2.1) (by rw [s1.2.2.2.1];exact h.2.2)
 have hold:∀ c∈o.d.cl,c.2.2=Orc.box o.key c.1 c.2.1:=hb hm2
 show c.2.2=Orc.box o.key c.1 c.2.1
 unfold one at hc
 rw [← s1.2.2.2.2.1] at hold
 rcases s2.2.2.2.2.2 with ⟨h,_⟩ | ⟨h,_,hx⟩
 · rw [h] at hc
   exact hold c hc
 · rw [h] at hc
   rcases List.mem_append.1 hc with hc | hc
   · exact hold c hc
   · rw [List.mem_singleton] at hc
     subst hc
     exact hx hm2
theorem all_boxed [Sha.Words]:∀ {l:List Pst} {o:Orc},o.Good→Fits o l→Boxed o→Boxed (all o l)
 | [],_,_,_,h=>h
 | _::l,_,hg,h,hb=>all_boxed (l:=l) (one_good hg h.1).2.1 h.2 (one_boxed hg h.1 hb)
end Pln
theorem infoPost:(Tryz.prog.info? 27).map (fun i=>(i.zero,i.size,i.bytes))=some (some (.agg #[.string ⟨#[]⟩,.int .i64 0,.int .i64 0,.int .i64 0,.int .i64 0]),5,48):=by kernel_rfl
namespace Pln
def postX (l:List Pst):List Value:=l.flatMap Pst.cells
theorem postX_append (l k:List Pst):postX (l++k)=postX l++postX k:=by simp [postX]
theorem postX_at:∀ {l:List Pst} {i:Nat} {p:Pst} {j:Nat} {u:Value},l[i]? =some p→p.cells[j]? =some u→(postX l)[i*5+j]? =some u
 | [],_,_,_,_,h,_=>by simp at h
 | x::l,0,p,j,u,h,hu=>by
   simp only [List.getElem?_cons_zero,Option.some.injEq] at h
   subst h
   have hj:j<x.cells.length:=(List.getElem?_eq_some_iff.1 hu).1
   show(x.cells++postX l)[0*5+j]? =some u
   rw [Nat.zero_mul,Nat.zero_add,List.getElem?_append_left hj]
   exact hu
 | x::l,i+1,p,j,u,h,hu=>by
   simp only [List.getElem?_cons_succ] at h
   show(x.cells++postX l)[(i+1)*5+j]? =some u
   have h5:x.cells.length=5:=rfl
   rw [List.getElem?_append_right (by omega),h5,show(i+1)*5+j-5=i*5+j by omega]
   exact postX_at h hu
def PostRow (W:World) (B:Nat) (v:Value) (l:List Pst):Prop:=W.ownsRow B 27 5 v l.length (postX l)
theorem PostRow.at {W:World} {B:Nat} {v:Value} {l:List Pst} (h:PostRow W B v l):PostsAt W v l:=by
 rcases ownsRow_cases h (by decide) with ⟨rfl,h1,_⟩ | ⟨g,cap,rfl,_,_,hm,hc⟩
 · have:=List.eq_nil_of_length_eq_zero h1
   subst this
   exact⟨none,0,rfl,Nat.zero_le _,fun i p hp=>by simp at hp⟩
 · exact⟨_,cap,rfl,by omega,fun i p hp=>⟨g,0,rfl,fun j u hu=>by rw [Nat.zero_add];exact hc _ u (postX_at hp hu)⟩⟩
def postOf (Z:Nat→Nat→Int) (i:Nat):Pst:=⟨wordOf (Z i 0),(pickOf (Z i 1) 3).toNat,i,(pickOf (Z i 1) 3).toNat,(pickOf (Z i 2) 6).toNat⟩
def postsOf (Z:Nat→Nat→Int) (n:Nat):List Pst:=(List.range (min n 12)).map (postOf Z)
theorem postsOf_length (Z:Nat→Nat→Int) (n:Nat):(postsOf Z n).length=min n 12:=by simp [postsOf]
theorem postsOf_at {Z:Nat→Nat→Int} {n i:Nat} (h:i<min n 12):(postsOf Z n)[i]? =some (postOf Z i):=by
 unfold postsOf
 rw [List.getElem?_map,List.getElem?_range h]
 rfl
theorem wordOf_size (c:Int):(wordOf c).size≤9:=by
 obtain⟨k,hk,hk6⟩:∃ k:Nat,pickOf c 6=(k:Int)∧k<6:=pick_nat c 6 (by decide)
 unfold wordOf
 rw [hk]
 rcases k with _ | _ | _ | _ | _ | _ | k
 all_goals first | omega | decide
theorem postOf_good (Z:Nat→Nat→Int) {i:Nat} (h:i<12):(postOf Z i).Good:=by
 have h1:=pickOf_range (c:=Z i 1) (n:=3) (by decide)
 have h2:=pickOf_range (c:=Z i 2) (n:=6) (by decide)
 have h3:=wordOf_size (Z i 0)
 exact⟨by show(wordOf _).size≤20;omega,by show(pickOf (Z i 1) 3).toNat≤_;omega,by show i≤_;omega,by show(pickOf (Z i 1) 3).toNat≤_;omega,by show(pickOf (Z i 2) 6).toNat≤_;omega⟩
theorem postsOf_good (Z:Nat→Nat→Int) (n:Nat):∀ p∈postsOf Z n,p.Good:=by
 intro p hp
 obtain⟨i,hi,rfl⟩:=List.mem_map.1 hp
 rw [List.mem_range] at hi
 exact postOf_good Z (by omega)
def PosB (W0:World) (nb:Nat) (vv:Value) (n:Nat) (xs:List Value) (p:Pst) (b:Nat) (x:Nat→Value) (W:World):Prop:=
 Keep (fun k=>k<nb) W0 W∧(b=0→W.ownsRow nb 27 5 vv n xs)∧(1≤b→W.ownsRow nb 27 5 (x 28) (n+1) (xs++p.cells))∧W0.heap.size≤W.heap.size
theorem PosB.below {W0:World} {nb:Nat} {vv:Value} {n:Nat} {xs:List Value} {p:Pst} {b:Nat} {x y:Nat→Value} {W W':World} (h:PosB W0 nb vv n xs p b x W) (he:∀ s∈[28],y s=x s) (hb:Below W.heap.size W W'):PosB W0 nb vv n xs p b y W':=by
 obtain⟨h1,h2,h3,h4⟩:=h
 refine⟨h1.trans ((Keep.below hb).mono fun _ _ _=>trivial),fun e=>owns_below (h2 e) hb,fun e=> ?_,Nat.le_trans h4 hb.size⟩
 rw [he 28 (by simp)]
 exact owns_below (h3 e) hb
def PosR (vv:Value) (ad:Addr) (len cap i:Nat) (Z:Nat→Nat→Int) (p:Pst) (b j:Nat) (v:Value) (W:World):Prop:=match j with
 | 0=>v=vv
 | 1=>v= .slice (some ad) len cap
 | 2=>v= .int .i64 (i:Int)
 | 3=>v= .pointer (some (ad.add (i*3)))
 | 4=>v= .pointer (some ((ad.add (i*3)).add 0))
 | 5=>v= .int .i64 (Z i 0)
 | 6=>v= .string p.word
 | 7=>v= .slice (some ad) len cap
 | 8=>v= .int .i64 (i:Int)
 | 9=>v= .pointer (some (ad.add (i*3)))
 | 10=>v= .pointer (some ((ad.add (i*3)).add 1))
 | 11=>v= .int .i64 (Z i 1)
 | 12=>v= .int .i64 (p.ep:Int)
 | 13=>v= .int .i64 (i:Int)
 | 14=>v= .slice (some ad) len cap
 | 15=>v= .int .i64 (i:Int)
 | 16=>v= .pointer (some (ad.add (i*3)))
 | 17=>v= .pointer (some ((ad.add (i*3)).add 1))
 | 18=>v= .int .i64 (Z i 1)
 | 19=>v= .int .i64 (p.kind:Int)
 | 20=>v= .slice (some ad) len cap
 | 21=>v= .int .i64 (i:Int)
 | 22=>v= .pointer (some (ad.add (i*3)))
 | 23=>v= .pointer (some ((ad.add (i*3)).add 2))
 | 24=>v= .int .i64 (Z i 2)
 | 25=>v= .int .i64 (p.id:Int)
 | 26=>v= .agg #[.string p.word,.int .i64 (p.ep:Int),.int .i64 (i:Int),.int .i64 (p.kind:Int),.int .i64 (p.id:Int)]
 | 27=>∃ q,v= .slice (some ⟨q,0,none⟩) 1 1∧(b=0→∀ j u,p.cells[j]? =some u→W.cell? ⟨q,j,none⟩=some u)
 | _=>True
theorem PosR.below {vv:Value} {ad:Addr} {len cap i:Nat} {Z:Nat→Nat→Int} {p:Pst} {b:Nat} {v:Value} {W W':World} (hb:Below W.heap.size W W'):∀ j,PosR vv ad len cap i Z p b j v W→PosR vv ad len cap i Z p b j v W'
 | 0,h=>h
 | 1,h=>h
 | 2,h=>h
 | 3,h=>h
 | 4,h=>h
 | 5,h=>h
 | 6,h=>h
 | 7,h=>h
 | 8,h=>h
 | 9,h=>h
 | 10,h=>h
 | 11,h=>h
 | 12,h=>h
 | 13,h=>h
 | 14,h=>h
 | 15,h=>h
 | 16,h=>h
 | 17,h=>h
 | 18,h=>h
 | 19,h=>h
 | 20,h=>h
 | 21,h=>h
 | 22,h=>h
 | 23,h=>h
 | 24,h=>h
 | 25,h=>h
 | 26,h=>h
 | 27,⟨q,h1,h2⟩=>⟨q,h1,fun e j u hu=>cell_below hb (h2 e j u hu)⟩
 | _+28,_=>trivial
theorem pos_turn {W0:World} {nb:Nat} {vv:Value} {ad:Addr} {len cap i:Nat} {Z:Nat→Nat→Int} {n:Nat} {xs:List Value} {p:Pst} {x:Nat→Value} {W W':World} {v':Value}
 (hB:PosB W0 nb vv n xs p 0 x W) (hown:W'.ownsRow nb 27 5 v' (n+1) (xs++p.cells)) (hgr:W.grownBy W' vv.ownBlock):
 PosB W0 nb vv n xs p 1 (fun j=>if j=28 then v' else x j) W'∧PosR vv ad len cap i Z p 1 28 v' W'∧∀ j,j≠28→PosR vv ad len cap i Z p 0 j (x j) W→PosR vv ad len cap i Z p 1 j (x j) W':=by
 obtain⟨h1,h2,-,h4⟩:=hB
 have h2:=h2 rfl
 have hk:=keep_grown hgr
 refine⟨⟨h1.trans (hk.mono fun k hk2 _ e=>by have:=(h2.lt k e).1;omega),fun e=>absurd e (by decide),fun _=>hown,Nat.le_trans h4 hgr.size⟩,trivial,?_⟩
 intro j hj h
 match j,hj,h with
 | 0,_,h=>exact h
 | 1,_,h=>exact h
 | 2,_,h=>exact h
 | 3,_,h=>exact h
 | 4,_,h=>exact h
 | 5,_,h=>exact h
 | 6,_,h=>exact h
 | 7,_,h=>exact h
 | 8,_,h=>exact h
 | 9,_,h=>exact h
 | 10,_,h=>exact h
 | 11,_,h=>exact h
 | 12,_,h=>exact h
 | 13,_,h=>exact h
 | 14,_,h=>exact h
 | 15,_,h=>exact h
 | 16,_,h=>exact h
 | 17,_,h=>exact h
 | 18,_,h=>exact h
 | 19,_,h=>exact h
 | 20,_,h=>exact h
 | 21,_,h=>exact h
 | 22,_,h=>exact h
 | 23,_,h=>exact h
 | 24,_,h=>exact h
 | 25,_,h=>exact h
 | 26,_,h=>exact h
 | 27,_,⟨q,h1,_⟩=>exact⟨q,h1,fun e=>absurd e (by decide)⟩
 | 28,hj,_=>exact absurd rfl hj
 | _+29,_,_=>trivial
end Pln
theorem Posts_any (v:Value) (w:World) (hv:RowsIn 3 v w):
 Calls Tryz.prog 14 #[v] w fun e w'=>∃(u:Value) (Z:Nat→Nat→Int) (n:Nat),e= .returned u∧Pln.PostRow w' w.heap.size u (Pln.postsOf Z n)∧Below w.heap.size w w':=by
 obtain⟨h0,hh0⟩:∃ h0,w.heap.size=h0:=⟨_,rfl⟩
 obtain⟨ao,len,cap,Z,rfl,hlen,hcell⟩:∃(ao:Option Addr) (len cap:Nat) (Z:Nat→Nat→Int),v= .slice ao len cap∧len≤maxLen∧∀ i,i<len→∃ ad,ao=some ad∧∀ j,j<3→w.cell? ((ad.add (i*3)).add j)=some (.int .i64 (Z i j))∧ -9223372036854775808≤Z i j∧Z i j≤9223372036854775807:=by
  rcases hv with rfl | ⟨a,len,cap,Z,rfl,h1,h2,h3⟩
  · exact⟨none,0,0,fun _ _=>0,rfl,Nat.zero_le _,fun i hi=>by omega⟩
  · exact⟨_,len,cap,Z,rfl,by omega,fun i hi=>⟨a,rfl,h3 i hi⟩⟩
 have h64:(len:Int)≤9223372036854775807:=by unfold maxLen at hlen;omega
 obtain⟨i0,hi0,hz0,hz1,hz2⟩:=info_parts infoPost
 have HI:=Lib.hid (And.intro hi0 (And.intro hz0 (And.intro hz1 hz2)))
 have Hcell:=Lib.hid hcell
 have Hst:Hid (∃ i:Nat,i≤min len 12∧Value.int .i64 0= .int .i64 (i:Int)∧w.ownsRow h0 27 5 (.slice none 0 0) i (Pln.postX ((Pln.postsOf Z len).take i))∧Below w.heap.size w w):=Lib.hid ⟨0,Nat.zero_le _,rfl,by simpa [Pln.postX] using World.ownsRow_nil _ _ _ 5,Below.refl _ _⟩
 clear hv hcell hlen hi0 hz0 hz1 hz2
 go_enter Tryz.func14,Tryz.ntmps14
 go_wp2
 go_loopw [3,4] (fun vo vi wr=>∃ i:Nat,i≤min len 12∧vi= .int .i64 (i:Int)∧wr.ownsRow h0 27 5 vo i (Pln.postX ((Pln.postsOf Z len).take i))∧Below w.heap.size w wr) (fun _ vi _=>12-(intOf vi).toNat)
 case atStart=>exact Hst.out
 case round=>
  clear Hst
  obtain⟨i,hi,rfl,hown,hbw⟩:=hrel
  by_cases hlt:i<min len 12
  · obtain⟨ad,rfl,hz⟩:=Hcell.out i (by omega)
    have h1:(i:Int)<(len:Int):=by omega
    have h2:(i:Int)<12:=by omega
    have hp:=Pln.postsOf_at (Z:=Z) hlt
    obtain⟨p,hpe⟩:∃ p,Pln.postOf Z i=p:=⟨_,rfl⟩
    have e0:p.word=wordOf (Z i 0):=by rw [← hpe];rfl
    have e1:((p.ep:Nat):Int)=pickOf (Z i 1) 3:=by
     have:=pickOf_range (c:=Z i 1) (n:=3) (by decide)
     rw [← hpe]
     show(((pickOf (Z i 1) 3).toNat:Nat):Int)=_
     omega
    have e2:((p.kind:Nat):Int)=pickOf (Z i 1) 3:=by
     have:=pickOf_range (c:=Z i 1) (n:=3) (by decide)
     rw [← hpe]
     show(((pickOf (Z i 1) 3).toNat:Nat):Int)=_
     omega
    have e3:((p.id:Nat):Int)=pickOf (Z i 2) 6:=by
     have:=pickOf_range (c:=Z i 2) (n:=6) (by decide)
     rw [← hpe]
     show(((pickOf (Z i 2) 6).toNat:Nat):Int)=_
     omega
    have e4:p.ct=i:=by rw [← hpe];rfl
    rw [hpe] at hp
    have hW:∀ W,Calls Tryz.prog 39 #[.int .i64 (Z i 0)] W fun e w'=>e= .returned (.string p.word)∧Below W.heap.size W w':=fun W=>by
     rw [e0]
     exact Word_any (Z i 0) (hz 0 (by decide)).2 W
    have hP1:∀ W,Calls Tryz.prog 15 #[.int .i64 (Z i 1),.int .i64 3] W fun e w'=>e= .returned (.int .i64 (p.ep:Int))∧w'=W:=fun W=>by
     rw [e1]
     exact pick19_any (Z i 1) 3 (hz 1 (by decide)).2 (by decide) W
    have hek:((p.kind:Nat):Int)=((p.ep:Nat):Int):=by rw [e2,e1]
    have hP2:∀ W,Calls Tryz.prog 15 #[.int .i64 (Z i 2),.int .i64 6] W fun e w'=>e= .returned (.int .i64 (p.id:Int))∧w'=W:=fun W=>by
     rw [e3]
     exact pick19_any (Z i 2) 6 (hz 2 (by decide)).2 (by decide) W
    have hnx:(Pln.postsOf Z len).take (i+1)=(Pln.postsOf Z len).take i++[p]:=by
     rw [List.take_add_one,hp]
     rfl
    have hc0:=(hz 0 (by decide)).1
    have hc1:=(hz 1 (by decide)).1
    have hc2:=(hz 2 (by decide)).1
    rw [Addr.add_zero'] at hc0
    rw [Addr.add_succ'] at hc1 hc2
    have hct:((p.ct:Nat):Int)=(i:Int):=by rw [e4]
    obtain⟨va,vk,rfl⟩:=slice_of hown
    obtain⟨xs,hxs⟩:∃ xs,Pln.postX ((Pln.postsOf Z len).take i)=xs:=⟨_,rfl⟩
    rw [hxs] at hown
    have hnx2:Pln.postX ((Pln.postsOf Z len).take (i+1))=xs++p.cells:=by rw [hnx,Pln.postX_append,hxs];simp [Pln.postX]
    have hzr:h0≤wr.heap.size:=by have:=hbw.size;omega
    have hB0:∀ y,Pln.PosB wr h0 (.slice va i vk) i xs p 0 y wr.drew:=fun y=>⟨(Keep.refl _ wr).drew,fun _=>owns_below hown (Below.refl _ wr).drew,fun e=>absurd e (by decide),Nat.le_refl _⟩
    have HB0:=Lib.hid hB0
    have HW:=Lib.hid hW
    have HP1:=Lib.hid hP1
    have HP2:=Lib.hid hP2
    have Hbw:=Lib.hid hbw
    have Hnx:=Lib.hid hnx2
    have Hc0:=Lib.hid hc0
    have Hc1:=Lib.hid hc1
    have Hc2:=Lib.hid hc2
    have Hek:=Lib.hid hek
    have Hct:=Lib.hid hct
    have Hhz:=Lib.hid (And.intro (hz 0 (by decide)).2 (And.intro (hz 1 (by decide)).2 (hz 2 (by decide)).2))
    clear hB0 hW hP1 hP2 hbw hnx hnx2 hc0 hc1 hc2 hek hct hz hp hpe e0 e1 e2 e3 e4 hown hxs
    go_wp2
    obtain⟨hi0,hz0,hz1,hz2⟩:=HI.out
    refine wp_region_any (by kernel_rfl) ?_
    change wpAny _ _ _ _ _ _ _ (World.drew wr)
    refine wpAny_phases 29 [28] [15,16,17,18,19,20,21,22,23,24,25,26,27,28,29,30,31,32,33,34,35,36,37,38,39,40,41,42,43] 1 #[true,true,true,true,true,true,true,true,true,true,true,true,true,true,true,true,true,true,true,true,true,true,true,true,true,true,true,true,true,false] (Pln.PosB wr h0 (.slice va i vk) i xs p) (Pln.PosR (.slice va i vk) ad len cap i Z p) 45 (by kernel_rfl) (by kernel_rfl) (by kernel_rfl) (by kernel_rfl) (fun b j v w w' h hb=>Pln.PosR.below hb j h) HB0.out (fun b x y w w' h he hb=>h.below he hb) ?_ ?_ ?_
    · refine PSteps.free rfl (fun b y W ρ hB jj jk jq jx jy=> ?_) (PSteps.free rfl (fun b y W ρ hB jj jk jq jx jy=> ?_) (PSteps.free rfl (fun b y W ρ hB jj jk jq jx jy=> ?_) (PSteps.free rfl (fun b y W ρ hB jj jk jq jx jy=> ?_) (PSteps.free rfl (fun b y W ρ hB jj jk jq jx jy=> ?_) (PSteps.free rfl (fun b y W ρ hB jj jk jq jx jy=> ?_) (PSteps.free rfl (fun b y W ρ hB jj jk jq jx jy=> ?_) (PSteps.free rfl (fun b y W ρ hB jj jk jq jx jy=> ?_) (PSteps.free rfl (fun b y W ρ hB jj jk jq jx jy=> ?_) (PSteps.free rfl (fun b y W ρ hB jj jk jq jx jy=> ?_) (PSteps.free rfl (fun b y W ρ hB jj jk jq jx jy=> ?_) (PSteps.free rfl (fun b y W ρ hB jj jk jq jx jy=> ?_) (PSteps.free rfl (fun b y W ρ hB jj jk jq jx jy=> ?_) (PSteps.free rfl (fun b y W ρ hB jj jk jq jx jy=> ?_) (PSteps.free rfl (fun b y W ρ hB jj jk jq jx jy=> ?_) (PSteps.free rfl (fun b y W ρ hB jj jk jq jx jy=> ?_) (PSteps.free rfl (fun b y W ρ hB jj jk jq jx jy=> ?_) (PSteps.free rfl (fun b y W ρ hB jj jk jq jx jy=> ?_) (PSteps.free rfl (fun b y W ρ hB jj jk jq jx jy=> ?_) (PSteps.free rfl (fun b y W ρ hB jj jk jq jx jy=> ?_) (PSteps.free rfl (fun b y W ρ hB jj jk jq jx jy=> ?_) (PSteps.free rfl (fun b y W ρ hB jj jk jq jx jy=> ?_) (PSteps.free rfl (fun b y W ρ hB jj jk jq jx jy=> ?_) (PSteps.free rfl (fun b y W ρ hB jj jk jq jx jy=> ?_) (PSteps.free rfl (fun b y W ρ hB jj jk jq jx jy=> ?_) (PSteps.free rfl (fun b y W ρ hB jj jk jq jx jy=> ?_) (PSteps.free rfl (fun b y W ρ hB jj jk jq jx jy=> ?_) (PSteps.upto 0 28 rfl rfl (by kernel_rfl) (fun b y W ρ hb hB jj jk jq jx jy=> ?_) (PSteps.skip (by decide) (PSteps.nil (by decide))))))))))))))))))))))))))))))
      · have e3:ρ (.tmp 3)= .slice va i vk:=jq 3 (by decide)
        clear jj jk jq
        refine Stepped.val ?_ rfl
        go_simp
      · have e0:ρ (.tmp 0)= .slice (some ad) len cap:=jq 0 (by decide)
        clear jj jk jq
        refine Stepped.val ?_ rfl
        go_simp
      · have e4:ρ (.tmp 4)= .int .i64 (i:Int):=jq 4 (by decide)
        clear jj jk jq
        refine Stepped.val ?_ rfl
        go_simp
      · have e16:=(jk 1 16 rfl (by decide)).trans (jj ⟨1,.data⟩ (by simp) rfl)
        have e17:=(jk 2 17 rfl (by decide)).trans (jj ⟨2,.data⟩ (by simp) rfl)
        clear jj jk jq
        refine Stepped.val ?_ rfl
        go_simp
      · have e18:=(jk 3 18 rfl (by decide)).trans (jj ⟨3,.data⟩ (by simp) rfl)
        clear jj jk jq
        refine Stepped.val ?_ rfl
        go_simp
      · have e19:=(jk 4 19 rfl (by decide)).trans (jj ⟨4,.data⟩ (by simp) rfl)
        have c0:=cell_below Hbw.out Hc0.out
        have c0:W.cell? (ad.add (i*3))=some (.int .i64 (Z i 0)):=hB.1.cell (p:=(ad.add (i*3))) (show _<h0 from hh0 ▸ lt_of_cell Hc0.out) c0
        clear jj jk jq
        refine Stepped.val ?_ rfl
        go_simp
      · have e20:=(jk 5 20 rfl (by decide)).trans (jj ⟨5,.data⟩ (by simp) rfl)
        have hfw:=jy 39
        clear jj jk jq
        refine Stepped.call (f:=39) (args:=#[.int .i64 (Z i 0)]) ?_ ?_
        · go_simp
        · refine(HW.out _).mono ?_
          rintro e w3 ⟨rfl,hb3⟩
          exact⟨_,rfl,hb3,rfl⟩
      · have e0:ρ (.tmp 0)= .slice (some ad) len cap:=jq 0 (by decide)
        clear jj jk jq
        refine Stepped.val ?_ rfl
        go_simp
      · have e4:ρ (.tmp 4)= .int .i64 (i:Int):=jq 4 (by decide)
        clear jj jk jq
        refine Stepped.val ?_ rfl
        go_simp
      · have e22:=(jk 7 22 rfl (by decide)).trans (jj ⟨7,.data⟩ (by simp) rfl)
        have e23:=(jk 8 23 rfl (by decide)).trans (jj ⟨8,.data⟩ (by simp) rfl)
        clear jj jk jq
        refine Stepped.val ?_ rfl
        go_simp
      · have e24:=(jk 9 24 rfl (by decide)).trans (jj ⟨9,.data⟩ (by simp) rfl)
        clear jj jk jq
        refine Stepped.val ?_ rfl
        go_simp
      · have e25:=(jk 10 25 rfl (by decide)).trans (jj ⟨10,.data⟩ (by simp) rfl)
        have c1:=cell_below Hbw.out Hc1.out
        have c1:W.cell? ⟨(ad.add (i*3)).block,(ad.add (i*3)).off+1,none⟩=some (.int .i64 (Z i 1)):=hB.1.cell (p:=⟨(ad.add (i*3)).block,(ad.add (i*3)).off+1,none⟩) (show _<h0 from hh0 ▸ lt_of_cell Hc1.out) c1
        clear jj jk jq
        refine Stepped.val ?_ rfl
        go_simp
      · have e26:=(jk 11 26 rfl (by decide)).trans (jj ⟨11,.data⟩ (by simp) rfl)
        have hfw:=jy 15
        clear jj jk jq
        refine Stepped.call (f:=15) (args:=#[.int .i64 (Z i 1),.int .i64 3]) ?_ ?_
        · go_simp
        · refine(HP1.out _).mono ?_
          rintro e w3 ⟨rfl,rfl⟩
          exact⟨_,rfl,Below.refl _ _,rfl⟩
      · have e4:ρ (.tmp 4)= .int .i64 (i:Int):=jq 4 (by decide)
        clear jj jk jq
        refine Stepped.val ?_ rfl
        go_simp
      · have e0:ρ (.tmp 0)= .slice (some ad) len cap:=jq 0 (by decide)
        clear jj jk jq
        refine Stepped.val ?_ rfl
        go_simp
      · have e4:ρ (.tmp 4)= .int .i64 (i:Int):=jq 4 (by decide)
        clear jj jk jq
        refine Stepped.val ?_ rfl
        go_simp
      · have e29:=(jk 14 29 rfl (by decide)).trans (jj ⟨14,.data⟩ (by simp) rfl)
        have e30:=(jk 15 30 rfl (by decide)).trans (jj ⟨15,.data⟩ (by simp) rfl)
        clear jj jk jq
        refine Stepped.val ?_ rfl
        go_simp
      · have e31:=(jk 16 31 rfl (by decide)).trans (jj ⟨16,.data⟩ (by simp) rfl)
        clear jj jk jq
        refine Stepped.val ?_ rfl
        go_simp
      · have e32:=(jk 17 32 rfl (by decide)).trans (jj ⟨17,.data⟩ (by simp) rfl)
        have c1:=cell_below Hbw.out Hc1.out
        have c1:W.cell? ⟨(ad.add (i*3)).block,(ad.add (i*3)).off+1,none⟩=some (.int .i64 (Z i 1)):=hB.1.cell (p:=⟨(ad.add (i*3)).block,(ad.add (i*3)).off+1,none⟩) (show _<h0 from hh0 ▸ lt_of_cell Hc1.out) c1
        clear jj jk jq
        refine Stepped.val ?_ rfl
        go_simp
      · have e33:=(jk 18 33 rfl (by decide)).trans (jj ⟨18,.data⟩ (by simp) rfl)
        have hfw:=jy 15
        clear jj jk jq
        refine Stepped.call (f:=15) (args:=#[.int .i64 (Z i 1),.int .i64 3]) ?_ ?_
        · go_simp
        · refine(HP1.out _).mono ?_
          rintro e w3 ⟨rfl,rfl⟩
          exact⟨_,rfl,Below.refl _ _,by show Value.int .i64 (p.ep:Int)= .int .i64 (p.kind:Int);rw [Hek.out]⟩
      · have e0:ρ (.tmp 0)= .slice (some ad) len cap:=jq 0 (by decide)
        clear jj jk jq
        refine Stepped.val ?_ rfl
        go_simp
      · have e4:ρ (.tmp 4)= .int .i64 (i:Int):=jq 4 (by decide)
        clear jj jk jq
        refine Stepped.val ?_ rfl
        go_simp
      · have e35:=(jk 20 35 rfl (by decide)).trans (jj ⟨20,.data⟩ (by simp) rfl)
        have e36:=(jk 21 36 rfl (by decide)).trans (jj ⟨21,.data⟩ (by simp) rfl)
        clear jj jk jq
        refine Stepped.val ?_ rfl
        go_simp
      · have e37:=(jk 22 37 rfl (by decide)).trans (jj ⟨22,.data⟩ (by simp) rfl)
        clear jj jk jq
        refine Stepped.val ?_ rfl
        go_simp
      · have e38:=(jk 23 38 rfl (by decide)).trans (jj ⟨23,.data⟩ (by simp) rfl)
        have c2:=cell_below Hbw.out Hc2.out
        have c2:W.cell? ⟨(ad.add (i*3)).block,(ad.add (i*3)).off+2,none⟩=some (.int .i64 (Z i 2)):=hB.1.cell (p:=⟨(ad.add (i*3)).block,(ad.add (i*3)).off+2,none⟩) (show _<h0 from hh0 ▸ lt_of_cell Hc2.out) c2
        clear jj jk jq
        refine Stepped.val ?_ rfl
        go_simp
      · have e39:=(jk 24 39 rfl (by decide)).trans (jj ⟨24,.data⟩ (by simp) rfl)
        have hfw:=jy 15
        clear jj jk jq
        refine Stepped.call (f:=15) (args:=#[.int .i64 (Z i 2),.int .i64 6]) ?_ ?_
        · go_simp
        · refine(HP2.out _).mono ?_
          rintro e w3 ⟨rfl,rfl⟩
          exact⟨_,rfl,Below.refl _ _,rfl⟩
      · have e21:=(jk 6 21 rfl (by decide)).trans (jj ⟨6,.data⟩ (by simp) rfl)
        have e27:=(jk 12 27 rfl (by decide)).trans (jj ⟨12,.data⟩ (by simp) rfl)
        have e28:=(jk 13 28 rfl (by decide)).trans (jj ⟨13,.data⟩ (by simp) rfl)
        have e34:=(jk 19 34 rfl (by decide)).trans (jj ⟨19,.data⟩ (by simp) rfl)
        have e40:=(jk 25 40 rfl (by decide)).trans (jj ⟨25,.data⟩ (by simp) rfl)
        clear jj jk jq
        refine Stepped.val ?_ rfl
        go_simp
      · have e41:=(jk 26 41 rfl (by decide)).trans (jj ⟨26,.data⟩ (by simp) rfl)
        have hba:Below W.heap.size W (W.alloc (.cells #[.string p.word,.int .i64 (p.ep:Int),.int .i64 (i:Int),.int .i64 (p.kind:Int),.int .i64 (p.id:Int)] 27)):=(Below.refl _ _).alloc (Nat.le_refl _) _
        clear jj jk jq
        refine Stepped.grow (v:= .slice (some ⟨W.heap.size,0,none⟩) 1 1) (w':=W.alloc (.cells #[.string p.word,.int .i64 (p.ep:Int),.int .i64 (i:Int),.int .i64 (p.kind:Int),.int .i64 (p.id:Int)] 27)) ?_ hba ⟨W.heap.size,rfl,fun _ j u hu=> ?_⟩
        · clear hba
          go_simp
        · rw [(Row.new W 27 _).cell j]
          unfold Pln.Pst.cells at hu
          rw [Hct.out] at hu
          simpa using hu
    · intro k
      rcases k with _ | k
      · intro s hs oo ho y W ρ hB jj jk jq jx
        cases hs
        cases ho
        have d0:=jj ⟨0,.data⟩ (by simp) rfl
        obtain⟨q,hy27,hq⟩:=jj ⟨27,.data⟩ (by simp) rfl
        have hq:=hq rfl
        have el:=jk 0 15 rfl (by decide)
        have es:=jk 27 42 rfl (by decide)
        rw [show y 0=_ from d0] at el
        rw [show y 27=_ from hy27] at es
        obtain⟨v',W',hrun,hown,hgr,-,-⟩:=run_append_own_at (P:=Tryz.prog) (w:=W) h0 36 36 27 i0 _ 5 48 Tryz.underlying36 hi0 hz0 hz1 hz2 rfl (by decide) _ _ _ (hB.2.1 rfl) ⟨q,0,none⟩ 1 1 p.cells rfl (fun j u hu=>by rw [Addr.add_mid,Nat.zero_add];exact hq j u hu) (by simp [Pln.Pst.cells,Value.oneCell']) (by unfold maxLen;omega) (by omega) (Nat.le_trans hzr hB.2.2.2)
        refine⟨v',W',.inl ?_,Pln.pos_turn hB hown hgr⟩
        clear jj jk jq hB hown hgr hq
        exact append_run (.tmp 15) (.tmp 42) _ rfl el es hrun
      · intro s hs
        simp at hs
    · intro y W hB hR
      obtain⟨hk1,-,hown,hz⟩:=hB
      have hown:=hown (Nat.le_refl _)
      have hbx:Below w.heap.size w W:=((Keep.below (S:=fun k=>k<h0) (hh0 ▸ Hbw.out)).trans (hk1.mono fun k hk _=>hk)).toBelow fun k hk=>by omega
      obtain⟨ya,yk,hy28⟩:=slice_of hown
      rw [hy28] at hown
      clear hR
      simp only [putAll,Act.put,hy28]
      refine wpAny_ready (rs:=[29]) (by kernel_rfl) (by simp) ?_
      refine AllReady.cons rfl (fun K hK=> ?_) AllReady.nil
      go_simp
      refine hK _ _ ?_
      clear hK K
      refine wpAny_done (by kernel_rfl) ?_ _
      go_wp2
      go_roundw
      case rel=>exact⟨i+1,by omega,by simp,by rw [Hnx.out];exact hown,hbx⟩
      case measure=>simp [intOf];omega
  · obtain rfl:i=min len 12:=by omega
    have htk:(Pln.postsOf Z len).take (min len 12)=Pln.postsOf Z len:=List.take_of_length_le (by rw [Pln.postsOf_length];exact Nat.le_refl _)
    rw [htk] at hown
    obtain⟨va,vk,rfl⟩:=slice_of hown
    have hown:Pln.PostRow wr h0 (.slice va (min len 12) vk) (Pln.postsOf Z len):=by
     unfold Pln.PostRow
     rw [Pln.postsOf_length]
     exact hown
    have Hown:=Lib.hid hown
    have Hbw:=Lib.hid hbw
    clear hown hbw htk
    by_cases h1:(min len 12:Nat)<len
    · have h3:((min len 12:Nat):Int)<(len:Int):=by omega
      have h4:¬ ((min len 12:Nat):Int)<12:=by omega
      generalize ((min len 12:Nat):Int)=M at*
      go_wp2
      go_ret
      exact⟨_,rfl,⟨Z,len,Hown.out⟩,hh0 ▸ Hbw.out⟩
    · have h3:¬ ((min len 12:Nat):Int)<(len:Int):=by omega
      generalize ((min len 12:Nat):Int)=M at*
      go_wp2
      go_ret
      exact⟨_,rfl,⟨Z,len,Hown.out⟩,hh0 ▸ Hbw.out⟩
theorem StrIn.take {W:World} {ao:Option Addr} {n c:Nat} {l:List ByteArray} (h:StrIn W (.slice ao n c) l) {k:Nat} (hk:k≤l.length):StrIn W (.slice ao k c) (l.take k):=by
 obtain⟨ao',cap,he,hl,hc⟩:=h
 injection he with e1 e2 e3
 subst e1
 subst e3
 refine⟨ao,c,by rw [List.length_take,Nat.min_eq_left hk],by rw [List.length_take];omega,fun i s hi=> ?_⟩
 rw [List.getElem?_take] at hi
 split at hi
 · exact hc i s hi
 · cases hi
theorem StrIn.drop {W:World} {b o:Nat} {n c:Nat} {l:List ByteArray} (h:StrIn W (.slice (some ⟨b,o,none⟩) n c) l) {k:Nat} (hk:k≤l.length) (c':Nat):StrIn W (.slice (some ⟨b,o+k,none⟩) (l.length-k) c') (l.drop k):=by
 obtain⟨ao',cap,he,hl,hc⟩:=h
 injection he with e1 e2 e3
 subst e1
 refine⟨_,c',by rw [List.length_drop],by rw [List.length_drop];omega,fun i s hi=>⟨_,rfl,?_⟩⟩
 rw [List.getElem?_drop] at hi
 obtain⟨a,ha,h2⟩:=hc _ s hi
 cases ha
 rw [Addr.add_mid] at h2 ⊢
 rw [Nat.add_assoc]
 exact h2
namespace Pln
theorem PostsAt.take {W:World} {ao:Option Addr} {n c:Nat} {l:List Pst} (h:PostsAt W (.slice ao n c) l) {k:Nat} (hk:k≤l.length):PostsAt W (.slice ao k c) (l.take k):=by
 obtain⟨ao',cap,he,hl,hc⟩:=h
 injection he with e1 e2 e3
 subst e1
 subst e3
 refine⟨ao,c,by rw [List.length_take,Nat.min_eq_left hk],by rw [List.length_take];omega,fun i s hi=> ?_⟩
 rw [List.getElem?_take] at hi
 split at hi
 · exact hc i s hi
 · cases hi
def fo (m:Int) (key s:ByteArray):Orc:=⟨m,key,⟨s,0,[],[]⟩⟩
theorem fo_good {m:Int} {key s:ByteArray} (hm:m=1∨m=2) (hk:key.size=32) (hs:s.size=2000):(fo m key s).Good:=
 ⟨hm,hk,⟨by show s.size≤_;omega,Nat.zero_le _,Nat.zero_le _,Nat.zero_le _,by simp [fo],by simp [fo],List.nodup_nil,List.nodup_nil⟩⟩
theorem fo_room {m:Int} {key s:ByteArray} (hs:s.size=2000) {n:Nat} (hn:n≤30):Room (fo m key s) n:=⟨(show 0+n≤2000 by omega),(show 0+n≤2000 by omega),fun _=>by show 0+56*n≤s.size;omega⟩
theorem fo_boxed [Sha.Words] (m:Int) (key s:ByteArray):Boxed (fo m key s):=fun _ c hc=>by simp [fo] at hc
def kinds (l:List Pst):List (Nat × Nat):=l.map fun p=>(p.kind,p.id)
theorem kinds_length (l:List Pst):(kinds l).length=l.length:=by simp [kinds]
theorem kinds_take (l:List Pst) (k:Nat):kinds (l.take k)=(kinds l).take k:=List.map_take
theorem kinds_at {l:List Pst} {i:Nat} {z:Nat × Nat} (h:(kinds l)[i]? =some z):∃ p,l[i]? =some p∧(p.kind,p.id)=z:=by
 unfold kinds at h
 rw [List.getElem?_map] at h
 cases hp:l[i]? with
 | none=>rw [hp] at h;cases h
 | some p=>rw [hp] at h;exact⟨p,rfl,Option.some.inj h⟩
theorem mem_at {α:Type} {l:List α} {i:Nat} {x:α} (h:l[i]? =some x):x∈l:=List.mem_of_getElem? h
theorem put_opens [Sha.Words] {o:Orc} {l:List Pst} (hg:o.Good) (hp:∀ p∈l,p.Good) (hf:Fits o l) (hb:Boxed o) (hcl:(all o l).d.clash=false) {i k id:Nat} (hi:(kinds l)[i]? =some (k,id)):
 k≤2∧id≤1073741824∧∃ lb c,((prs o l).map (·.2))[i]? =some lb∧(ces o l)[i]? =some c∧c.size≠0∧OpensTo (all o l) lb c (cellB k id) 0:=by
 obtain⟨p,hpi,hpz⟩:=kinds_at hi
 cases hpz
 have hlt:i<l.length:=(List.getElem?_eq_some_iff.1 hpi).1
 obtain⟨x,hx⟩:∃ x,(prs o l)[i]? =some x:=⟨_,List.getElem?_eq_getElem (by rw [prs_length];exact hlt)⟩
 obtain⟨c,hc⟩:∃ c,(ces o l)[i]? =some c:=⟨_,List.getElem?_eq_getElem (by rw [ces_length];exact hlt)⟩
 have hx1:x.1=p:=by
  have h:=congrArg (fun z=>z[i]?) (prs_fst o l)
  simp only [List.getElem?_map,hx,Option.map_some,hpi] at h
  exact Option.some.inj h
 have hcs:=ces_size hg hf c (mem_at hc)
 have hls:=prs_size hg hf x (mem_at hx)
 have jk:=ces_in hg hf i x c hx hc
 rw [hx1] at jk
 exact⟨(hp p (mem_at hpi)).kind,(hp p (mem_at hpi)).id,x.2,c,by rw [List.getElem?_map,hx];rfl,hc,by omega,opensTo_found (all_good hg hf) (all_boxed hg hf hb) hcl hls hcs jk⟩
end Pln
theorem fold_put [Sha.Words] {o:Orc} {l:List Pln.Pst} (hg:o.Good) (hp:∀ p∈l,p.Good) (hf:Pln.Fits o l) (hb:Pln.Boxed o) (hcl:(Pln.all o l).d.clash=false) (hl:l.length≤1000) {k:Nat} (hk:k≤l.length) (nv cv v1 v2:Value) (w:World) (hR:Sha.RoundIn w) (hN:NmAt w 0 nv (Pln.all o l).d.nm) (hC:ClAt w 0 cv (Pln.all o l).d.cl)
 (h1:StrIn w v1 (((Pln.prs o l).map (·.2)).take k)) (h2:StrIn w v2 ((Pln.ces o l).take k)):
 Calls Tryz.prog 27 #[(Pln.all o l).agg nv cv,v1,v2] w fun e w'=>(∃ v,e= .returned (.tuple #[v,.int .i64 0])∧IntsAt w' v (Pln.foldS ((Pln.kinds l).take k)))∧Below w.heap.size w w':=by
 have e1:(((Pln.prs o l).map (·.2)).take k).length=k:=by rw [List.length_take,List.length_map,Pln.prs_length];omega
 have e2:((Pln.ces o l).take k).length=k:=by rw [List.length_take,Pln.ces_length];omega
 have e3:((Pln.kinds l).take k).length=k:=by rw [List.length_take,Pln.kinds_length];omega
 refine(fold_any (Pln.all o l) (Pln.all_good hg hf) nv cv _ _ v1 v2 ((Pln.kinds l).take k) 0 w hR hN hC h1 h2 (by rw [e1,e2]) (by rw [e2];omega) (by rw [e2,e3];exact Nat.le_refl _) (fun i q id hi=> ?_) (fun h=>by rw [e2,e3] at h;omega)).mono ?_
 · rw [List.getElem?_take] at hi
   split at hi
   · rename_i hik
     obtain⟨a1,a2,lb,c,a3,a4,a5,a6⟩:=Pln.put_opens hg hp hf hb hcl hi
     exact⟨a1,a2,lb,c,by rw [List.getElem?_take,if_pos hik];exact a3,by rw [List.getElem?_take,if_pos hik];exact a4,a5,a6⟩
   · cases hi
 · rintro e w' ⟨⟨v,h | h⟩,hbl⟩
   · exact⟨⟨v,h.2.1,h.2.2⟩,hbl⟩
   · have:=h.1
     rw [e2,e3] at this
     omega
theorem fold_stop [Sha.Words] {o:Orc} {l:List Pln.Pst} (hg:o.Good) (hp:∀ p∈l,p.Good) (hf:Pln.Fits o l) (hb:Pln.Boxed o) (hcl:(Pln.all o l).d.clash=false) (hl:l.length≤1000) {k:Nat} (hk:k<l.length) (nv cv v1 v2:Value) (c:ByteArray) (res:Int) (w:World) (hR:Sha.RoundIn w) (hN:NmAt w 0 nv (Pln.all o l).d.nm) (hC:ClAt w 0 cv (Pln.all o l).d.cl)
 (h1:StrIn w v1 ((Pln.prs o l).map (·.2))) (h2:StrIn w v2 ((Pln.ces o l).set k c)) (hres:∀ lb,((Pln.prs o l).map (·.2))[k]? =some lb→(c.size=0∧res=30)∨(c.size≠0∧res≠0∧∃ t,Pln.OpensTo (Pln.all o l) lb c t res)):
 Calls Tryz.prog 27 #[(Pln.all o l).agg nv cv,v1,v2] w fun e w'=>e= .returned (.tuple #[.slice none 0 0,.int .i64 res])∧Below w.heap.size w w':=by
 have e1:((Pln.prs o l).map (·.2)).length=l.length:=by rw [List.length_map,Pln.prs_length]
 have e2:((Pln.ces o l).set k c).length=l.length:=by rw [List.length_set,Pln.ces_length]
 have e3:((Pln.kinds l).take k).length=k:=by rw [List.length_take,Pln.kinds_length];omega
 obtain⟨lb,hlb⟩:∃ lb,((Pln.prs o l).map (·.2))[k]? =some lb:=⟨_,List.getElem?_eq_getElem (by rw [e1];exact hk)⟩
 refine(fold_any (Pln.all o l) (Pln.all_good hg hf) nv cv _ _ v1 v2 ((Pln.kinds l).take k) res w hR hN hC h1 h2 (by rw [e1,e2]) (by rw [e2];omega) (by rw [e2,e3];omega) (fun i q id hi=> ?_) (fun _=> ?_)).mono ?_
 · rw [List.getElem?_take] at hi
   split at hi
   · rename_i hik
     obtain⟨a1,a2,lb,c',a3,a4,a5,a6⟩:=Pln.put_opens hg hp hf hb hcl hi
     exact⟨a1,a2,lb,c',a3,by rw [List.getElem?_set_ne (by omega)];exact a4,a5,a6⟩
   · cases hi
 · rw [e3]
   exact⟨lb,c,hlb,by rw [List.getElem?_set_self (by rw [Pln.ces_length];exact hk)],hres lb hlb⟩
 · rintro e w' ⟨⟨v,h | h⟩,hbl⟩
   · have:=h.1
     rw [e2,e3] at this
     omega
   · exact⟨h.2,hbl⟩
theorem fold_bad [Sha.Words] (o:Orc) (hg:o.Good) (nv cv:Value) (Ls Cs:List ByteArray) (v1 v2:Value) (w:World) (hN:NmAt w 0 nv o.d.nm) (hC:ClAt w 0 cv o.d.cl) (h1:StrIn w v1 Ls) (h2:StrIn w v2 Cs) (hne:Ls.length≠Cs.length):
 Calls Tryz.prog 27 #[o.agg nv cv,v1,v2] w fun e w'=>e= .returned (.tuple #[.slice none 0 0,.int .i64 1])∧Below w.heap.size w w':=by
 obtain⟨h0,hh0⟩:∃ h0,w.heap.size=h0:=⟨_,rfl⟩
 obtain⟨na,nk,rfl⟩:=slice_of hN
 obtain⟨ca,ck,rfl⟩:=slice_of hC
 obtain⟨ao1,cap1,rfl,hl1,hc1⟩:=h1
 obtain⟨ao2,cap2,rfl,hl2,hc2⟩:=h2
 have hRi:=fun W (hb:Below w.heap.size w W)=>oracleRight_all o hg (.slice na o.d.nm.length nk) (.slice ca o.d.cl.length ck) W (owns_below hN hb) (owns_below hC hb)
 have hb0:Below w.heap.size w (w.alloc (.cells #[.int .i64 o.m,.string o.key,.string o.d.tb,.int .i64 (o.d.pos:Int),.slice na o.d.nm.length nk,.slice ca o.d.cl.length ck,.bool o.d.clash] 34)):=(Below.refl _ w).alloc (Nat.le_refl _) _
 unfold Orc.agg Orc.vals at hRi
 have HRi:=Lib.hid hRi
 have Hb0:=Lib.hid hb0
 have h64:¬ (Ls.length:Int)=(Cs.length:Int):=by omega
 clear hRi hN hC hc1 hc2 hb0 hl1 hl2 hg hne
 unfold Orc.agg Orc.vals
 go_enter Tryz.func27,Tryz.ntmps27
 go_wp2_with fail
 refine(HRi.out _ Hb0.out).mono ?_
 rintro e w2 ⟨rfl,hb2⟩
 have Hb2:=Lib.hid (Hb0.out.trans (hb2.mono Hb0.out.size))
 clear hb2 HRi Hb0
 go_wp2
 go_ret2
 exact⟨rfl,Hb2.out⟩
theorem rows_below {n:Nat} {v:Value} {w W:World} (h:RowsIn n v w) (hb:Below w.heap.size w W):RowsIn n v W:=by
 rcases h with h | ⟨a,len,cap,Z,h0,h1,h2,h3⟩
 · exact .inl h
 · exact .inr ⟨a,len,cap,Z,h0,h1,h2,fun i hi j hj=>⟨cell_below hb (h3 i hi j hj).1,(h3 i hi j hj).2⟩⟩
theorem StrAt.in {W:World} {B n c:Nat} {a:Option Addr} {l:List ByteArray} (h:StrAt W B (.slice a n c) l):(a=none∧n=0∧c=0∧l=[])∨∃ g,a=some ⟨g,0,none⟩∧B≤g∧g<W.heap.size∧n=l.length:=by
 rcases ownsRow_cases h (by decide) with ⟨h1,h2,_⟩ | ⟨g,cap,h1,_⟩
 · injection h1 with e1 e2 e3
   exact .inl ⟨e1,e2,e3,List.eq_nil_of_length_eq_zero h2⟩
 · injection h1 with e1 e2 e3
   subst e1
   exact .inr ⟨g,rfl,(h.lt g rfl).1,(h.lt g rfl).2,e2⟩
theorem StrAt.store {W:World} {B g n c:Nat} {l:List ByteArray} (h:StrAt W B (.slice (some ⟨g,0,none⟩) n c) l) {j:Nat} (hj:j<l.length) (x:ByteArray):
 (∃ old,W.cell? ⟨g,j,none⟩=some (.string old))∧W.frozen? ⟨g,j,none⟩=false∧StrAt (W.setCell ⟨g,j,none⟩ (.string x)) B (.slice (some ⟨g,0,none⟩) n c) (l.set j x):=by
 have hn:n=l.length:=by
  rcases ownsRow_cases h (by decide) with ⟨h1,_⟩ | ⟨_,_,h1,_⟩
  · cases h1
  · injection h1
 rcases h.2 with ⟨h1,_⟩ | ⟨g',cap,cur,h1,hb,hg,hnc,hcm,hsz,htk⟩
 · cases h1
 · injection h1 with e1 e2 e3
   injection e1 with e1
   injection e1 with e1
   subst e1
   subst e3
   have hr:Row W g 9 cur:=hg
   have hx:cur[j]? =some (.string l[j]):=by
    have h2:=congrArg (fun z=>z[j]?) htk
    simp only [List.getElem?_take,List.getElem?_map,Nat.mul_one] at h2
    rw [if_pos hj,List.getElem?_eq_getElem hj] at h2
    simpa using h2
   refine⟨⟨_,(hr.cell j).trans hx⟩,hr.frozen j,?_,.inr ⟨g,c,_,by rw [List.length_set,hn],hb,hr.store j (.string x),by rw [List.length_set];exact hnc,hcm,by simpa using hsz,?_⟩⟩
   · simp
   · rw [Array.toList_setIfInBounds,List.length_set,List.map_set,← htk,List.take_set]
theorem StrAt.cap {W:World} {B n c:Nat} {a:Option Addr} {l:List ByteArray} (h:StrAt W B (.slice a n c) l):n≤c:=by
 rcases h.2 with ⟨h1,_⟩ | ⟨_,_,_,h1,_,_,h2,_⟩
 · injection h1 with _ e2 e3
   omega
 · injection h1 with _ e2 e3
   omega
theorem owns_cap {W:World} {B s n c m:Nat} {e:TypeId} {a:Option Addr} {xs:List Value} (h:W.ownsRow B e s (.slice a n c) m xs):n≤c:=by
 rcases h.2 with ⟨h1,_⟩ | ⟨_,_,_,h1,_,_,h2,_⟩
 · injection h1 with _ e2 e3
   omega
 · injection h1 with _ e2 e3
   omega
namespace Pln
structure PutAll [Sha.Words] (O Q:Orc) (l:List Pst) (Ls Cs:List ByteArray):Prop where
 ln:Ls.length=l.length
 cn:Cs.length=l.length
 good:Q.Good
 put:∀(u:Value) (W:World),Sha.RoundIn W→PostsAt W u l→Calls Tryz.prog 20 #[.agg #[.int .i64 O.m,.string O.key,.string O.d.tb,.int .i64 0,.slice none 0 0,.slice none 0 0,.bool false],u] W fun e w'=>∃(lo:Option Addr) (lc:Nat) (co:Option Addr) (cc:Nat) (na:Option Addr) (nk:Nat) (oa:Option Addr) (ok:Nat),e= .returned (.tuple #[.agg #[.int .i64 1,.slice lo l.length lc,.slice co l.length cc],.agg #[.int .i64 Q.m,.string Q.key,.string Q.d.tb,.int .i64 (Q.d.pos:Int),.slice na Q.d.nm.length nk,.slice oa Q.d.cl.length ok,.bool Q.d.clash],.int .i64 0])∧StrAt w' W.heap.size (.slice lo l.length lc) Ls∧StrAt w' W.heap.size (.slice co l.length cc) Cs∧NmAt w' 0 (.slice na Q.d.nm.length nk) Q.d.nm∧ClAt w' 0 (.slice oa Q.d.cl.length ok) Q.d.cl∧Below W.heap.size W w'
 fold:Q.d.clash=false→∀(k:Nat) (nv cv v1 v2:Value) (W:World),k≤l.length→Sha.RoundIn W→NmAt W 0 nv Q.d.nm→ClAt W 0 cv Q.d.cl→StrIn W v1 (Ls.take k)→StrIn W v2 (Cs.take k)→Calls Tryz.prog 27 #[Q.agg nv cv,v1,v2] W fun e w'=>(∃ v,e= .returned (.tuple #[v,.int .i64 0])∧IntsAt w' v (foldS ((kinds l).take k)))∧Below W.heap.size W w'
 stop:Q.d.clash=false→∀(k:Nat) (nv cv v1 v2:Value) (c:ByteArray) (res:Int) (W:World),k<l.length→Sha.RoundIn W→NmAt W 0 nv Q.d.nm→ClAt W 0 cv Q.d.cl→StrIn W v1 Ls→StrIn W v2 (Cs.set k c)→(∀ lb,Ls[k]? =some lb→(c.size=0∧res=30)∨(c.size≠0∧res≠0∧∃ t,OpensTo Q lb c t res))→Calls Tryz.prog 27 #[Q.agg nv cv,v1,v2] W fun e w'=>e= .returned (.tuple #[.slice none 0 0,.int .i64 res])∧Below W.heap.size W w'
theorem put_all [Sha.Words] {m:Int} {key s:ByteArray} {l:List Pst} (hm:m=1∨m=2) (hk:key.size=32) (hs:s.size=2000) (hp:∀ p∈l,p.Good) (hn:l.length≤30):PutAll (fo m key s) (all (fo m key s) l) l ((prs (fo m key s) l).map (·.2)) (ces (fo m key s) l):=by
 have hg:=fo_good hm hk hs
 have hf:=fits_room hg hp (fo_room (m:=m) (key:=key) hs hn)
 have hb:=fo_boxed m key s
 have e1:((prs (fo m key s) l).map (·.2)).length=l.length:=by rw [List.length_map,prs_length]
 have e2:(ces (fo m key s) l).length=l.length:=ces_length _ _
 refine⟨e1,e2,all_good hg hf,fun u W hR hP=> ?_,fun hcl k nv cv v1 v2 W hkl hR hN hC h1 h2=>fold_put hg hp hf hb hcl (by omega) hkl nv cv v1 v2 W hR hN hC h1 h2,fun hcl k nv cv v1 v2 c res W hkl hR hN hC h1 h2 hres=>fold_stop hg hp hf hb hcl (by omega) hkl nv cv v1 v2 c res W hR hN hC h1 h2 hres⟩
 refine(put_any (fo m key s) hg (.slice none 0 0) (.slice none 0 0) l u (by omega) hf W hR (World.ownsRow_nil _ _ _ 2) (World.ownsRow_nil _ _ _ 3) hP).mono ?_
 rintro e w' ⟨lv,cv,nv',cv',rfl,hl,hc,hN,hC,hbw⟩
 obtain⟨lo,lc,rfl⟩:=slice_of hl
 obtain⟨co,cc,rfl⟩:=slice_of hc
 obtain⟨na,nk,rfl⟩:=slice_of hN
 obtain⟨oa,ok,rfl⟩:=slice_of hC
 rw [e1] at hl
 rw [e2] at hc
 exact⟨lo,lc,co,cc,na,nk,oa,ok,by rw [e1,e2];rfl,hl,hc,hN,hC,hbw⟩
end Pln
theorem ups_length (l:List Int):(ups l).length≤l.length:=by
 have h:(l.mergeSort fun x y=>decide (x≤y)).length=l.length:=List.length_mergeSort ..
 unfold ups Lib.compact Lib.compactUpTo
 rw [List.length_map,← h]
 exact Nat.le_trans (List.length_filter_le _ _) (by simp)
theorem without_snoc (l:List Int) (x n:Int):without (l++[x]) n=if x=n then without l n else without l n++[x]:=by
 unfold without
 rw [List.filter_append]
 by_cases h:x=n <;> simp [h]
theorem take_snoc {α:Type} {l:List α} {i:Nat} {x:α} (h:l[i]? =some x):l.take (i+1)=l.take i++[x]:=by
 rw [List.take_add_one,h]
 rfl
theorem owns_cap2 {W:World} {B s n c m:Nat} {e:TypeId} {a:Option Addr} {xs:List Value} (h:W.ownsRow B e s (.slice a n c) m xs):n≤c:=by
 rcases h.2 with ⟨h1,_⟩ | ⟨_,_,_,h1,_,_,h2,_⟩
 · injection h1 with _ e2 e3
   omega
 · injection h1 with _ e2 e3
   omega
theorem ints_one1 (W:World) (x:Int):IntsAt (W.alloc (.cells #[.int .i64 x] 3)) (.slice (some ⟨W.heap.size,0,none⟩) 1 1) [x]:=by
 refine⟨_,1,rfl,(show 1≤maxLen by decide),fun i q hq=>⟨_,rfl,?_⟩⟩
 match i,hq with
 | 0,hq=>
   cases hq
   exact(Row.new W 3 #[.int .i64 x]).cell 0
theorem ints_append {w:World} {base:Nat} {v:Value} {xs ys:List Int} (ty:TypeId) (hown:w.ownsRow base 3 1 v xs.length (xs.map (Value.int .i64))) {u:Value} (hu:IntsAt w u ys) (hn:u= .slice none 0 0∨∃ a n c,u= .slice (some a) n c) (h63:xs.length+ys.length≤10000000) (hbase:base≤w.heap.size):
 ∃ v' w',(Builtin.append_ #[60,60] ty #[v,u]).run Tryz.prog w= .ok v' w'∧w'.ownsRow base 3 1 v' (xs++ys).length ((xs++ys).map (Value.int .i64))∧Keep (fun k=>v.ownBlock≠some k) w w':=by
 obtain⟨i0,hi0,hz0,hz1,hz2⟩:=info_parts infoInt
 rcases hn with rfl | ⟨ad,n,c,rfl⟩
 · obtain⟨_,_,he,_,_⟩:=hu
   injection he with _ e2 _
   have:ys=[]:=List.eq_nil_of_length_eq_zero e2.symm
   subst this
   rw [List.append_nil]
   exact⟨v,w,run_append_owned_none (P:=Tryz.prog) (w:=w) base 60 ty 3 i0 1 Tryz.underlying60 hi0 v _ _ hown,hown,Keep.refl _ _⟩
 · obtain⟨ao,cap,he,hl,hc⟩:=hu
   injection he with e1 e2 e3
   subst e1
   subst e2
   subst e3
   obtain⟨v',w',hrun,ho,hg,-⟩:=run_append_own (P:=Tryz.prog) w base 60 ty 3 i0 _ 1 8 Tryz.underlying60 hi0 hz0 hz1 hz2 rfl (by decide) v _ _ hown ad ys.length c (ys.map (Value.int .i64)) (by simp) (fun j u hj=>by
    rw [List.getElem?_map] at hj
    cases hx:ys[j]? with
    | none=>rw [hx] at hj;cases hj
    | some x=>
      rw [hx] at hj
      obtain⟨a,ha,h2⟩:=hc j x hx
      rw [← Option.some.inj ha] at h2
      rw [h2,← Option.some.inj hj]) (by intro u hu;obtain⟨x,-,rfl⟩:=List.mem_map.1 hu;rfl) (by unfold maxLen;omega) (by omega) hbase
   refine⟨v',w',hrun,?_,keep_grown hg⟩
   rw [List.length_append,List.map_append]
   exact ho
theorem IntsAt.take {W:World} {ao:Option Addr} {n c:Nat} {l:List Int} (h:IntsAt W (.slice ao n c) l) {k:Nat} (hk:k≤l.length):IntsAt W (.slice ao k c) (l.take k):=by
 obtain⟨ao',cap,he,hl,hc⟩:=h
 injection he with e1 e2 e3
 subst e1
 subst e3
 refine⟨ao,c,by rw [List.length_take,Nat.min_eq_left hk],by rw [List.length_take];omega,fun i s hi=> ?_⟩
 rw [List.getElem?_take] at hi
 split at hi
 · exact hc i s hi
 · cases hi
theorem IntsAt.drop {W:World} {b o:Nat} {n c:Nat} {l:List Int} (h:IntsAt W (.slice (some ⟨b,o,none⟩) n c) l) {k:Nat} (hk:k≤l.length) (c':Nat):IntsAt W (.slice (some ⟨b,o+k,none⟩) (l.length-k) c') (l.drop k):=by
 obtain⟨ao',cap,he,hl,hc⟩:=h
 injection he with e1 e2 e3
 subst e1
 refine⟨_,c',by rw [List.length_drop],by rw [List.length_drop];omega,fun i s hi=>⟨_,rfl,?_⟩⟩
 rw [List.getElem?_drop] at hi
 obtain⟨a,ha,h2⟩:=hc _ s hi
 cases ha
 rw [Addr.add_mid] at h2 ⊢
 rw [Nat.add_assoc]
 exact h2
theorem refWithout_any (v:Value) (xs:List Int) (n:Int) (w:World) (h:IntsAt w v xs) (hsz:xs.length≤1000000):
 Calls Tryz.prog 54 #[v,.int .i64 n] w fun e w'=>∃ v',e= .returned v'∧w'.ownsRow w.heap.size 3 1 v' (without xs n).length ((without xs n).map (Value.int .i64))∧Below w.heap.size w w':=by
 obtain⟨ao,cap,rfl,hl,hc⟩:=h
 obtain⟨i0,hi0,hz0,hz1,hz2⟩:=info_parts infoInt
 have h63:(xs.length:Int)≤1000000:=by omega
 have Hc:=Lib.hid hc
 have HI:=Lib.hid (And.intro hi0 (And.intro hz0 (And.intro hz1 hz2)))
 clear hc hi0 hz0 hz1 hz2
 go_enter Tryz.func54,Tryz.ntmps54
 go_wp2
 go_loopw [5,6] (fun vo vi wr=>∃ i:Nat,i≤xs.length∧vi= .int .i64 (i:Int)∧wr.ownsRow w.heap.size 3 1 vo (without (xs.take i) n).length ((without (xs.take i) n).map (Value.int .i64))∧Below w.heap.size w wr) (fun _ vi _=>xs.length-(intOf vi).toNat)
 case atStart=>exact⟨0,Nat.zero_le _,rfl,World.ownsRow_nil _ _ _ 1,Below.refl _ _⟩
 case round=>
  obtain⟨i,hi,rfl,hown,hb⟩:=hrel
  have Hown:=Lib.hid hown
  have Hb:=Lib.hid hb
  clear hown hb
  by_cases hlt:i<xs.length
  · have hlt':(i:Int)<(xs.length:Int):=by omega
    obtain⟨x,hx⟩:∃ x,xs[i]? =some x:=⟨_,List.getElem?_eq_getElem hlt⟩
    obtain⟨a1,rfl,x1⟩:=Hc.out i x hx
    have x1:=cell_below Hb.out x1
    have hsn:=without_snoc (xs.take i) x n
    rw [← take_snoc hx] at hsn
    have Hsn:=Lib.hid hsn
    have hzr:=Hb.out.size
    have Hlen:=Lib.hid (show(without (xs.take i) n).length≤1000000 from Nat.le_trans (List.length_filter_le _ _) (by rw [List.length_take];omega))
    clear hx hsn
    by_cases he:x=n
    · rw [if_pos he] at Hsn
      go_wp2
      go_roundw
      case rel=>exact⟨i+1,by omega,by simp,by rw [Hsn.out];exact Hown.out,Hb.out⟩
      case measure=>simp [intOf];omega
    · rw [if_neg he] at Hsn
      go_wp2_with (at_builtin;go_must (refine wpList_append_own _ rfl _ _ 60 rfl w.heap.size 3 i0 _ 1 8 Tryz.underlying60 HI.out.1 HI.out.2.1 HI.out.2.2.1 HI.out.2.2.2 rfl (by decide) _ _ _ rfl (Hown.out.alloc _) ⟨wr.heap.size,0,none⟩ 1 1 [.int .i64 x] rfl rfl ?a2 (by simp [Value.oneCell']) ?a3 ?a4 ?a5 ?_))
      case a2=>intro j u hu;rw [Addr.add_mid,Nat.zero_add,(Row.new wr 3 #[.int .i64 x]).cell j];simpa using hu
      case a3=>have:=Hlen.out;unfold maxLen;omega
      case a4=>have:=Hlen.out;omega
      case a5=>rw [World.size_alloc];omega
      intro v' w7 hown' hgr _
      have hbx:Below w.heap.size w w7:=(Hb.out.alloc hzr _).trans (keep_below (B:=w.heap.size) ((keep_grown hgr).mono fun k (hk:k<w.heap.size) _ e=>by have:=(Hown.out.lt k e).1;omega) (fun k hk=>hk) (by rw [World.size_alloc];omega))
      have Hnx:=Lib.hid (And.intro hown' hbx)
      clear hown' hgr hbx
      go_wp2
      go_roundw
      case rel=>exact⟨i+1,by omega,by simp,by rw [Hsn.out,List.length_append,List.map_append];exact Hnx.out.1,Hnx.out.2⟩
      case measure=>simp [intOf];omega
  · obtain rfl:i=xs.length:=by omega
    have Hown2:=Hown
    rw [List.take_length] at Hown2
    clear Hown
    go_wp2
    go_ret
    exact⟨_,rfl,Hown2.out,Hb.out⟩
theorem refWith_any (v:Value) (xs:List Int) (n:Int) (w:World) (h:IntsAt w v xs) (hr:Rise xs) (hsz:xs.length≤1000000):
 Calls Tryz.prog 53 #[v,.int .i64 n] w fun e w'=>∃ v',e= .returned v'∧w'.ownsRow w.heap.size 3 1 v' (withN xs n).length ((withN xs n).map (Value.int .i64))∧Below w.heap.size w w':=by
 have hW:=refWithout_any v xs n w h hsz
 have hrr:=without_rise hr n
 have hle:(without xs n).length≤1000000:=Nat.le_trans (List.length_filter_le _ _) hsz
 have hmm:=@mem_without xs n
 have Hsp:=Lib.hid (fun k=>@withN_split xs n k hr)
 obtain⟨R,hR⟩:∃ R,without xs n=R:=⟨_,rfl⟩
 rw [hR] at hW hrr hle Hsp
 simp only [hR] at hmm
 have HW:=Lib.hid hW
 have h63:(R.length:Int)≤1000000:=by omega
 clear hW h hR
 go_enter Tryz.func53,Tryz.ntmps53
 go_wp2_with fail
 refine HW.out.mono ?_
 rintro e w1 ⟨v1,rfl,hown,hb1⟩
 have jk:=IntsAt.own hown rfl
 obtain⟨ra,rk,rfl⟩:=slice_of hown
 have hcases:=ownsRow_cases hown (by decide)
 have Hcs:=Lib.hid hcases
 have Hown:=Lib.hid hown
 have Hin:=Lib.hid jk
 have Hb1:=Lib.hid hb1
 clear hcases hown jk hb1 HW
 go_wp2
 go_loopw [6] (fun vi wr=>∃ k:Nat,k≤R.length∧vi= .int .i64 (k:Int)∧(∀ x∈R.drop k,n<x)∧wr=w1) (fun vi _=>(intOf vi).toNat)
 case atStart=>exact⟨R.length,Nat.le_refl _,rfl,(fun x hx=>absurd hx (by rw [List.drop_length];exact List.not_mem_nil)),rfl⟩
 case round=>
  obtain⟨k,hk,rfl,hhi,rfl⟩:=hrel
  have Hhi:=Lib.hid hhi
  clear hhi
  by_cases hgo:0<k∧∃ x,R[k-1]? =some x∧n<x
  · obtain⟨hk0,x,hx,hnx⟩:=hgo
    obtain⟨k,rfl⟩:∃ j,k=j+1:=⟨k-1,by omega⟩
    rw [Nat.add_sub_cancel] at hx
    obtain⟨_,_,he,_,hc⟩:=Hin.out
    obtain⟨a,ha,hxc⟩:=hc k x hx
    injection he with e1 e2 e3
    subst e1
    subst ha
    have Hx:=Lib.hid hx
    have hk1:(0:Int)<((k+1:Nat):Int):=by omega
    have hk2:((k+1:Nat):Int)-1=(k:Int):=by omega
    have hk3:(k:Int)<(R.length:Int):=by omega
    clear hc hx
    go_wp2
    go_roundw
    case rel=>
     refine⟨k,by omega,by go_num,fun y hy=> ?_,trivial⟩
     rw [List.drop_eq_getElem_cons (by omega)] at hy
     rcases List.mem_cons.1 hy with rfl | hy
     · rw [List.getElem?_eq_getElem (by omega)] at Hx
       have hx2:=Option.some.inj Hx.out
       omega
     · exact Hhi.out y hy
    case measure=>simp [intOf]
  · have hlo:∀ x∈R.take k,x<n:=by
     intro x hx
     obtain⟨j,hj,rfl⟩:=List.mem_iff_getElem.1 hx
     rw [List.length_take] at hj
     have hjk:j<k:=by omega
     rw [List.getElem_take]
     have hne:R[j]≠n:=(hmm.1 (List.getElem_mem (by omega))).2
     obtain⟨y,hy⟩:∃ y,R[k-1]? =some y:=⟨_,List.getElem?_eq_getElem (by omega)⟩
     have hyn:¬ n<y:=fun h=>hgo ⟨by omega,y,hy,h⟩
     rcases Nat.lt_or_ge j (k-1) with h | h
     · have:=hrr.at h (List.getElem?_eq_getElem (by omega)) hy
       omega
     · have e:j=k-1:=by omega
       subst e
       rw [List.getElem?_eq_getElem (by omega)] at hy
       have:=Option.some.inj hy
       omega
    have hres:=Hsp.out k hlo Hhi.out
    have hin1:=Hin.out.take hk
    have hra:ra=none∧rk=0∨∃ g,ra=some ⟨g,0,none⟩:=by
     rcases Hcs.out with ⟨he,_⟩ | ⟨g,cap,he,_⟩
     · injection he with e1 e2 e3
       exact .inl ⟨e1,e3⟩
     · injection he with e1 e2 e3
       exact .inr ⟨g,e1⟩
    have hin2:IntsAt wr (.slice (if rk=k then ra else ra.map fun q=>q.add k) (R.length-k) (rk-k)) (R.drop k)∧(Value.slice (if rk=k then ra else ra.map fun q=>q.add k) (R.length-k) (rk-k)= .slice none 0 0∨∃ a m c,Value.slice (if rk=k then ra else ra.map fun q=>q.add k) (R.length-k) (rk-k)= .slice (some a) m c):=by
     rcases hra with ⟨rfl,rfl⟩ | ⟨g,rfl⟩
     · have hR0:R=[]:=by
        obtain⟨_,_,he,_,hc⟩:=Hin.out
        injection he with e1 _ _
        subst e1
        cases R with
        | nil=>rfl
        | cons y r=>
          obtain⟨a,ha,_⟩:=hc 0 y rfl
          cases ha
       subst hR0
       refine⟨?_,.inl (by simp)⟩
       have:=IntsAt.nil wr none 0
       simpa using this
     · by_cases hrk:rk=k
       · have hle:=owns_cap2 Hown.out
         have hkl:k=R.length:=by omega
         rw [if_pos hrk]
         refine⟨?_,.inr ⟨_,_,_,rfl⟩⟩
         rw [hkl,List.drop_length,Nat.sub_self]
         exact IntsAt.nil _ _ _
       · have h2:=Hin.out.drop hk (rk-k)
         rw [Nat.zero_add] at h2
         rw [if_neg hrk]
         refine⟨?_,.inr ⟨_,_,_,rfl⟩⟩
         rw [Option.map_some,Addr.add_mid,Nat.zero_add]
         exact h2
    have hin1n:Value.slice ra k rk= .slice none 0 0∨∃ a m c,Value.slice ra k rk= .slice (some a) m c:=by
     rcases hra with ⟨rfl,rfl⟩ | ⟨g,rfl⟩
     · have:k=0:=by have:=owns_cap2 Hown.out;omega
       rw [this]
       exact .inl rfl
     · exact .inr ⟨_,_,_,rfl⟩
    have hkr:k≤rk:=Nat.le_trans hk (owns_cap2 Hown.out)
    have hrk:R.length≤rk:=owns_cap2 Hown.out
    have Hin1:=Lib.hid hin1
    have Hin2:=Lib.hid hin2.1
    have Hin2n:=Lib.hid hin2.2
    have Hin1n:=Lib.hid hin1n
    have Hra:=Lib.hid hra
    have Hres:=Lib.hid hres
    obtain⟨hz,hhz⟩:∃ hz,wr.heap.size=hz:=⟨_,rfl⟩
    have hcase:k=0∨∃(k':Nat) (y:Int) (a:Addr),k=k'+1∧k'<R.length∧ra=some a∧wr.cell? (a.add k')=some (.int .i64 y)∧¬ n<y:=by
     rcases Nat.eq_zero_or_pos k with h | h
     · exact .inl h
     · obtain⟨y,hy⟩:∃ y,R[k-1]? =some y:=⟨_,List.getElem?_eq_getElem (by omega)⟩
       obtain⟨_,_,he,_,hc⟩:=Hin.out
       injection he with e1 e2 e3
       subst e1
       obtain⟨a,ha,hxc⟩:=hc (k-1) y hy
       exact .inr ⟨k-1,y,a,by omega,by omega,ha,hxc,fun h2=>hgo ⟨h,y,hy,h2⟩⟩
    have hkI:(k:Int)≤(R.length:Int):=by omega
    have hkJ:(k:Int)≤(rk:Int):=by omega
    clear hin1 hin2 hin1n hra hres hlo hgo
    rcases hcase with hk0 | ⟨k',y,a,hk1,hk2,hra,hxc,hny⟩
    · have hk3:¬ (0:Int)<(k:Int):=by omega
      go_upto_region 5 with fail
      clear hk3 hk0
      refine wp_region_any (by kernel_rfl) ?_
      change wpAny _ _ _ _ _ _ _ (World.drew wr)
      refine wpAny_phases 12 [6,10] [25,26,27,28,29,30,31,32,33,34,35,4] 0 #[true,true,true,true,true,true,true,true,true,true,true,true] (fun _ _ X=>Below wr.heap.size wr X) (fun b j v W=>match j with
       | 0=>v= .slice ra R.length rk
       | 1=>v= .int .i64 (k:Int)
       | 2=>v= .slice ra k rk
       | 3=>b=0→W.ownsRow hz 3 1 v (R.take k).length ((R.take k).map (Value.int .i64))
       | 4=>v= .int .i64 n
       | 5=>∃ q,v= .slice (some ⟨q,0,none⟩) 1 1∧(b=0→IntsAt W v [n])
       | 6=>1≤b∧(b=1→W.ownsRow hz 3 1 v (R.take k++[n]).length ((R.take k++[n]).map (Value.int .i64)))
       | 7=>v= .slice ra R.length rk
       | 8=>v= .int .i64 (k:Int)
       | 9=>v= .slice (if rk=k then ra else ra.map fun q=>q.add k) (R.length-k) (rk-k)
       | 10=>2≤b∧W.ownsRow hz 3 1 v (R.take k++[n]++R.drop k).length ((R.take k++[n]++R.drop k).map (Value.int .i64))
       | _=>2≤b∧W.ownsRow hz 3 1 v (R.take k++[n]++R.drop k).length ((R.take k++[n]++R.drop k).map (Value.int .i64))) 36 (by kernel_rfl) (by kernel_rfl) (by kernel_rfl) (by kernel_rfl) ?_ (fun _=>(Below.refl _ wr).drew) (fun b x y w w' h _ hb=>below_seq h hb) ?_ ?_ ?_
      · intro b j v W W' h hb
        rcases j with _ | _ | _ | _ | _ | _ | _ | _ | _ | _ | _ | j
        all_goals first
         | exact h
         | exact fun e=>owns_below (h e) hb
         | exact⟨h.1,fun e=>owns_below (h.2 e) hb⟩
         | exact⟨h.1,owns_below h.2 hb⟩
         | (obtain⟨q,h1,h2⟩:=h;exact⟨q,h1,fun e=>(h2 e).below hb⟩)
      · refine PSteps.free rfl (fun b y W ρ hB jj jk jq jx jy=> ?_) (PSteps.free rfl (fun b y W ρ hB jj jk jq jx jy=> ?_) (PSteps.free rfl (fun b y W ρ hB jj jk jq jx jy=> ?_) (PSteps.upto 0 6 rfl rfl (by kernel_rfl) (fun b y W ρ hb hB jj jk jq jx jy=> ?_) (PSteps.free rfl (fun b y W ρ hB jj jk jq jx jy=> ?_) (PSteps.upto 0 6 rfl rfl (by kernel_rfl) (fun b y W ρ hb hB jj jk jq jx jy=> ?_) (PSteps.skip (by decide) (PSteps.free rfl (fun b y W ρ hB jj jk jq jx jy=> ?_) (PSteps.free rfl (fun b y W ρ hB jj jk jq jx jy=> ?_) (PSteps.free rfl (fun b y W ρ hB jj jk jq jx jy=> ?_) (PSteps.skip (by decide) (PSteps.free rfl (fun b y W ρ hB jj jk jq jx jy=> ?_) (PSteps.nil (Nat.le_refl _)))))))))))))
        · have e5:ρ (.tmp 5)= .slice ra R.length rk:=jq 5 (by decide)
          clear jj jk jq
          refine Stepped.val ?_ rfl
          go_simp
        · have e6:ρ (.tmp 6)= .int .i64 (k:Int):=jq 6 (by decide)
          clear jj jk jq
          refine Stepped.val ?_ rfl
          go_simp
        · have e25:=(jk 0 25 rfl (by decide)).trans (jj ⟨0,.data⟩ (by simp) rfl)
          have e26:=(jk 1 26 rfl (by decide)).trans (jj ⟨1,.data⟩ (by simp) rfl)
          clear jj jk jq
          refine Stepped.val (v:= .slice ra k rk) ?_ rfl
          rcases Hra.out with ⟨rfl,rfl⟩ | ⟨g,rfl⟩
          · (have hk0:k=0:=by omega);subst hk0;go_simp
          · go_simp
        · have e27:=(jk 2 27 rfl (by decide)).trans (jj ⟨2,.data⟩ (by simp) rfl)
          clear jj jk jq
          obtain⟨v',W',hrun,hs,hk2⟩:=ints_append (w:=W) (base:=hz) (v:= .slice none 0 0) (xs:=[]) (ys:=R.take k) 60 (World.ownsRow_nil _ _ _ 1) (Hin1.out.below hB) Hin1n.out (by rw [List.length_nil,List.length_take];omega) (by rw [← hhz];exact hB.size)
          rw [List.nil_append] at hs
          refine Stepped.grow (v:=v') (w':=W') ?_ (hk2.toBelow fun k _ e=>by cases e) fun _=>hs
          exact append_run (.const (.slice none 0 0)) (.tmp 27) _ rfl (jx _) e27 hrun
        · have e1:ρ (.tmp 1)= .int .i64 n:=jq 1 (by decide)
          clear jj jk jq
          refine Stepped.val ?_ rfl
          go_simp
        · have e29:=(jk 4 29 rfl (by decide)).trans (jj ⟨4,.data⟩ (by simp) rfl)
          clear jj jk jq
          refine Stepped.grow (v:= .slice (some ⟨W.heap.size,0,none⟩) 1 1) (w':=W.alloc (.cells #[.int .i64 n] 3)) ?_ ((Below.refl _ _).alloc (Nat.le_refl _) _) ⟨_,rfl,fun _=>ints_one1 W n⟩
          go_simp
        · have e5:ρ (.tmp 5)= .slice ra R.length rk:=jq 5 (by decide)
          clear jj jk jq
          refine Stepped.val ?_ rfl
          go_simp
        · have e6:ρ (.tmp 6)= .int .i64 (k:Int):=jq 6 (by decide)
          clear jj jk jq
          refine Stepped.val ?_ rfl
          go_simp
        · have e32:=(jk 7 32 rfl (by decide)).trans (jj ⟨7,.data⟩ (by simp) rfl)
          have e33:=(jk 8 33 rfl (by decide)).trans (jj ⟨8,.data⟩ (by simp) rfl)
          clear jj jk jq
          refine Stepped.val (v:= .slice (if rk=k then ra else ra.map fun q=>q.add k) (R.length-k) (rk-k)) ?_ rfl
          rcases Hra.out with ⟨rfl,rfl⟩ | ⟨g,rfl⟩
          · go_simp
          · go_simp
        · obtain⟨hb2,d10⟩:=jj ⟨10,.data⟩ (by simp) rfl
          have e35:=jk 10 35 rfl (by decide)
          clear jj jk jq
          refine Stepped.val (v:=y 10) ?_ ⟨hb2,d10⟩
          clear d10
          generalize y 10=v10 at e35
          go_simp
      · intro j
        rcases j with _ | _ | j
        · intro s hs oo ho y W ρ hB jj jk jq jx
          cases hs
          cases ho
          have d3:=jj ⟨3,.data⟩ (by simp) rfl
          have d3:W.ownsRow hz 3 1 (y 3) (R.take k).length ((R.take k).map (Value.int .i64)):=d3 rfl
          obtain⟨q,hq,h5⟩:=jj ⟨5,.data⟩ (by simp) rfl
          have h5:IntsAt W (y 5) [n]:=h5 rfl
          have es:=jk 3 28 rfl (by decide)
          have ex:=jk 5 30 rfl (by decide)
          obtain⟨v',W',hrun,hs,hk2⟩:=ints_append (w:=W) (base:=hz) 60 d3 h5 (.inr ⟨_,_,_,hq⟩) (by rw [List.length_take,List.length_singleton];omega) (by rw [← hhz];exact hB.size)
          have hown:=d3
          have hk3:Below hz W W':=keep_below hk2 (fun k hk e=>by have:=(hown.lt k e).1;omega) (by rw [← hhz];exact hB.size)
          have hBW:Below wr.heap.size wr W':=hB.trans (by rw [hhz];exact hk3)
          refine⟨v',W',.inl ?_,hBW,⟨Nat.le_refl _,fun _=>hs⟩,fun j hj h=> ?_⟩
          · exact append_run (.tmp 28) (.tmp 30) _ rfl es ex hrun
          · rcases j with _ | _ | _ | _ | _ | _ | _ | _ | _ | _ | _ | j
            all_goals first
             | exact h
             | exact absurd rfl hj
             | exact fun e=>absurd e (by decide)
             | (obtain⟨q,h1,_⟩:=h;exact⟨q,h1,fun e=>absurd e (by decide)⟩)
             | exact absurd h.1 (by decide)
        · intro s hs oo ho y W ρ hB jj jk jq jx
          cases hs
          cases ho
          obtain⟨-,d6⟩:=jj ⟨6,.data⟩ (by simp) rfl
          have d6:W.ownsRow hz 3 1 (y 6) (R.take k++[n]).length ((R.take k++[n]).map (Value.int .i64)):=d6 rfl
          have d9:=jj ⟨9,.data⟩ (by simp) rfl
          have es:=jk 6 31 rfl (by decide)
          have ex:=jk 9 34 rfl (by decide)
          rw [show y 9=_ from d9] at ex
          obtain⟨v',W',hrun,hs,hk2⟩:=ints_append (w:=W) (base:=hz) 60 d6 (Hin2.out.below hB) Hin2n.out (by rw [List.length_append,List.length_take,List.length_drop,List.length_singleton];omega) (by rw [← hhz];exact hB.size)
          have hown:=d6
          have hk3:Below hz W W':=keep_below hk2 (fun k hk e=>by have:=(hown.lt k e).1;omega) (by rw [← hhz];exact hB.size)
          have hBW:Below wr.heap.size wr W':=hB.trans (by rw [hhz];exact hk3)
          refine⟨v',W',.inl ?_,hBW,⟨Nat.le_refl _,hs⟩,fun j hj h=> ?_⟩
          · exact append_run (.tmp 31) (.tmp 34) _ rfl es ex hrun
          · rcases j with _ | _ | _ | _ | _ | _ | _ | _ | _ | _ | _ | j
            all_goals first
             | exact h
             | exact absurd rfl hj
             | exact fun e=>absurd e (by decide)
             | (obtain⟨q,h1,_⟩:=h;exact⟨q,h1,fun e=>absurd e (by decide)⟩)
             | exact⟨by decide,fun e=>absurd e (by decide)⟩
             | exact absurd h.1 (by decide)
        · intro s hs
          cases hs
      · intro y W hB hR
        obtain⟨-,d11⟩:=hR 11 (by decide)
        clear hR
        change W.ownsRow hz 3 1 (y 11) (R.take k++[n]++R.drop k).length ((R.take k++[n]++R.drop k).map (Value.int .i64)) at d11
        obtain⟨v11,hv11⟩:∃ v,y 11=v:=⟨_,rfl⟩
        rw [hv11] at d11
        simp only [putAll,Act.put,hv11]
        have hown4:=d11
        have hbx:Below wr.heap.size wr W:=hB
        rw [show R.take k++[n]++R.drop k=withN xs n by rw [List.append_assoc,List.singleton_append];exact Hres.out] at hown4
        have hfin:=ownsRow_weak hown4 (show w.heap.size≤hz by rw [← hhz];exact Hb1.out.size)
        have Hfin:=Lib.hid hfin
        have HbF:=Lib.hid (below_seq Hb1.out hbx)
        clear hfin hown4 hbx d11 hB
        refine wpAny_done (by kernel_rfl) ?_ _
        go_simp
        go_wp2
        go_ret
        exact⟨v11,rfl,Hfin.out,HbF.out⟩
    · have hk3:(0:Int)<(k:Int):=by omega
      have hk4:(k:Int)-1=(k':Int):=by omega
      have hk5:(k':Int)<(R.length:Int):=by omega
      subst hra
      go_upto_region 5 with fail
      clear hk3 hk4 hk5 hxc hk1
      generalize (some a:Option Addr)=ra at*
      refine wp_region_any (by kernel_rfl) ?_
      change wpAny _ _ _ _ _ _ _ (World.drew wr)
      refine wpAny_phases 12 [6,10] [25,26,27,28,29,30,31,32,33,34,35,4] 0 #[true,true,true,true,true,true,true,true,true,true,true,true] (fun _ _ X=>Below wr.heap.size wr X) (fun b j v W=>match j with
       | 0=>v= .slice ra R.length rk
       | 1=>v= .int .i64 (k:Int)
       | 2=>v= .slice ra k rk
       | 3=>b=0→W.ownsRow hz 3 1 v (R.take k).length ((R.take k).map (Value.int .i64))
       | 4=>v= .int .i64 n
       | 5=>∃ q,v= .slice (some ⟨q,0,none⟩) 1 1∧(b=0→IntsAt W v [n])
       | 6=>1≤b∧(b=1→W.ownsRow hz 3 1 v (R.take k++[n]).length ((R.take k++[n]).map (Value.int .i64)))
       | 7=>v= .slice ra R.length rk
       | 8=>v= .int .i64 (k:Int)
       | 9=>v= .slice (if rk=k then ra else ra.map fun q=>q.add k) (R.length-k) (rk-k)
       | 10=>2≤b∧W.ownsRow hz 3 1 v (R.take k++[n]++R.drop k).length ((R.take k++[n]++R.drop k).map (Value.int .i64))
       | _=>2≤b∧W.ownsRow hz 3 1 v (R.take k++[n]++R.drop k).length ((R.take k++[n]++R.drop k).map (Value.int .i64))) 36 (by kernel_rfl) (by kernel_rfl) (by kernel_rfl) (by kernel_rfl) ?_ (fun _=>(Below.refl _ wr).drew) (fun b x y w w' h _ hb=>below_seq h hb) ?_ ?_ ?_
      · intro b j v W W' h hb
        rcases j with _ | _ | _ | _ | _ | _ | _ | _ | _ | _ | _ | j
        all_goals first
         | exact h
         | exact fun e=>owns_below (h e) hb
         | exact⟨h.1,fun e=>owns_below (h.2 e) hb⟩
         | exact⟨h.1,owns_below h.2 hb⟩
         | (obtain⟨q,h1,h2⟩:=h;exact⟨q,h1,fun e=>(h2 e).below hb⟩)
      · refine PSteps.free rfl (fun b y W ρ hB jj jk jq jx jy=> ?_) (PSteps.free rfl (fun b y W ρ hB jj jk jq jx jy=> ?_) (PSteps.free rfl (fun b y W ρ hB jj jk jq jx jy=> ?_) (PSteps.upto 0 6 rfl rfl (by kernel_rfl) (fun b y W ρ hb hB jj jk jq jx jy=> ?_) (PSteps.free rfl (fun b y W ρ hB jj jk jq jx jy=> ?_) (PSteps.upto 0 6 rfl rfl (by kernel_rfl) (fun b y W ρ hb hB jj jk jq jx jy=> ?_) (PSteps.skip (by decide) (PSteps.free rfl (fun b y W ρ hB jj jk jq jx jy=> ?_) (PSteps.free rfl (fun b y W ρ hB jj jk jq jx jy=> ?_) (PSteps.free rfl (fun b y W ρ hB jj jk jq jx jy=> ?_) (PSteps.skip (by decide) (PSteps.free rfl (fun b y W ρ hB jj jk jq jx jy=> ?_) (PSteps.nil (Nat.le_refl _)))))))))))))
        · have e5:ρ (.tmp 5)= .slice ra R.length rk:=jq 5 (by decide)
          clear jj jk jq
          refine Stepped.val ?_ rfl
          go_simp
        · have e6:ρ (.tmp 6)= .int .i64 (k:Int):=jq 6 (by decide)
          clear jj jk jq
          refine Stepped.val ?_ rfl
          go_simp
        · have e25:=(jk 0 25 rfl (by decide)).trans (jj ⟨0,.data⟩ (by simp) rfl)
          have e26:=(jk 1 26 rfl (by decide)).trans (jj ⟨1,.data⟩ (by simp) rfl)
          clear jj jk jq
          refine Stepped.val (v:= .slice ra k rk) ?_ rfl
          rcases Hra.out with ⟨rfl,rfl⟩ | ⟨g,rfl⟩
          · (have hk0:k=0:=by omega);subst hk0;go_simp
          · go_simp
        · have e27:=(jk 2 27 rfl (by decide)).trans (jj ⟨2,.data⟩ (by simp) rfl)
          clear jj jk jq
          obtain⟨v',W',hrun,hs,hk2⟩:=ints_append (w:=W) (base:=hz) (v:= .slice none 0 0) (xs:=[]) (ys:=R.take k) 60 (World.ownsRow_nil _ _ _ 1) (Hin1.out.below hB) Hin1n.out (by rw [List.length_nil,List.length_take];omega) (by rw [← hhz];exact hB.size)
          rw [List.nil_append] at hs
          refine Stepped.grow (v:=v') (w':=W') ?_ (hk2.toBelow fun k _ e=>by cases e) fun _=>hs
          exact append_run (.const (.slice none 0 0)) (.tmp 27) _ rfl (jx _) e27 hrun
        · have e1:ρ (.tmp 1)= .int .i64 n:=jq 1 (by decide)
          clear jj jk jq
          refine Stepped.val ?_ rfl
          go_simp
        · have e29:=(jk 4 29 rfl (by decide)).trans (jj ⟨4,.data⟩ (by simp) rfl)
          clear jj jk jq
          refine Stepped.grow (v:= .slice (some ⟨W.heap.size,0,none⟩) 1 1) (w':=W.alloc (.cells #[.int .i64 n] 3)) ?_ ((Below.refl _ _).alloc (Nat.le_refl _) _) ⟨_,rfl,fun _=>ints_one1 W n⟩
          go_simp
        · have e5:ρ (.tmp 5)= .slice ra R.length rk:=jq 5 (by decide)
          clear jj jk jq
          refine Stepped.val ?_ rfl
          go_simp
        · have e6:ρ (.tmp 6)= .int .i64 (k:Int):=jq 6 (by decide)
          clear jj jk jq
          refine Stepped.val ?_ rfl
          go_simp
        · have e32:=(jk 7 32 rfl (by decide)).trans (jj ⟨7,.data⟩ (by simp) rfl)
          have e33:=(jk 8 33 rfl (by decide)).trans (jj ⟨8,.data⟩ (by simp) rfl)
          clear jj jk jq
          refine Stepped.val (v:= .slice (if rk=k then ra else ra.map fun q=>q.add k) (R.length-k) (rk-k)) ?_ rfl
          rcases Hra.out with ⟨rfl,rfl⟩ | ⟨g,rfl⟩
          · go_simp
          · go_simp
        · obtain⟨hb2,d10⟩:=jj ⟨10,.data⟩ (by simp) rfl
          have e35:=jk 10 35 rfl (by decide)
          clear jj jk jq
          refine Stepped.val (v:=y 10) ?_ ⟨hb2,d10⟩
          clear d10
          generalize y 10=v10 at e35
          go_simp
      · intro j
        rcases j with _ | _ | j
        · intro s hs oo ho y W ρ hB jj jk jq jx
          cases hs
          cases ho
          have d3:=jj ⟨3,.data⟩ (by simp) rfl
          have d3:W.ownsRow hz 3 1 (y 3) (R.take k).length ((R.take k).map (Value.int .i64)):=d3 rfl
          obtain⟨q,hq,h5⟩:=jj ⟨5,.data⟩ (by simp) rfl
          have h5:IntsAt W (y 5) [n]:=h5 rfl
          have es:=jk 3 28 rfl (by decide)
          have ex:=jk 5 30 rfl (by decide)
          obtain⟨v',W',hrun,hs,hk2⟩:=ints_append (w:=W) (base:=hz) 60 d3 h5 (.inr ⟨_,_,_,hq⟩) (by rw [List.length_take,List.length_singleton];omega) (by rw [← hhz];exact hB.size)
          have hown:=d3
          have hk3:Below hz W W':=keep_below hk2 (fun k hk e=>by have:=(hown.lt k e).1;omega) (by rw [← hhz];exact hB.size)
          have hBW:Below wr.heap.size wr W':=hB.trans (by rw [hhz];exact hk3)
          refine⟨v',W',.inl ?_,hBW,⟨Nat.le_refl _,fun _=>hs⟩,fun j hj h=> ?_⟩
          · exact append_run (.tmp 28) (.tmp 30) _ rfl es ex hrun
          · rcases j with _ | _ | _ | _ | _ | _ | _ | _ | _ | _ | _ | j
            all_goals first
             | exact h
             | exact absurd rfl hj
             | exact fun e=>absurd e (by decide)
             | (obtain⟨q,h1,_⟩:=h;exact⟨q,h1,fun e=>absurd e (by decide)⟩)
             | exact absurd h.1 (by decide)
        · intro s hs oo ho y W ρ hB jj jk jq jx
          cases hs
          cases ho
          obtain⟨-,d6⟩:=jj ⟨6,.data⟩ (by simp) rfl
          have d6:W.ownsRow hz 3 1 (y 6) (R.take k++[n]).length ((R.take k++[n]).map (Value.int .i64)):=d6 rfl
          have d9:=jj ⟨9,.data⟩ (by simp) rfl
          have es:=jk 6 31 rfl (by decide)
          have ex:=jk 9 34 rfl (by decide)
          rw [show y 9=_ from d9] at ex
          obtain⟨v',W',hrun,hs,hk2⟩:=ints_append (w:=W) (base:=hz) 60 d6 (Hin2.out.below hB) Hin2n.out (by rw [List.length_append,List.length_take,List.length_drop,List.length_singleton];omega) (by rw [← hhz];exact hB.size)
          have hown:=d6
          have hk3:Below hz W W':=keep_below hk2 (fun k hk e=>by have:=(hown.lt k e).1;omega) (by rw [← hhz];exact hB.size)
          have hBW:Below wr.heap.size wr W':=hB.trans (by rw [hhz];exact hk3)
          refine⟨v',W',.inl ?_,hBW,⟨Nat.le_refl _,hs⟩,fun j hj h=> ?_⟩
          · exact append_run (.tmp 31) (.tmp 34) _ rfl es ex hrun
          · rcases j with _ | _ | _ | _ | _ | _ | _ | _ | _ | _ | _ | j
            all_goals first
             | exact h
             | exact absurd rfl hj
             | exact fun e=>absurd e (by decide)
             | (obtain⟨q,h1,_⟩:=h;exact⟨q,h1,fun e=>absurd e (by decide)⟩)
             | exact⟨by decide,fun e=>absurd e (by decide)⟩
             | exact absurd h.1 (by decide)
        · intro s hs
          cases hs
      · intro y W hB hR
        obtain⟨-,d11⟩:=hR 11 (by decide)
        clear hR
        change W.ownsRow hz 3 1 (y 11) (R.take k++[n]++R.drop k).length ((R.take k++[n]++R.drop k).map (Value.int .i64)) at d11
        obtain⟨v11,hv11⟩:∃ v,y 11=v:=⟨_,rfl⟩
        rw [hv11] at d11
        simp only [putAll,Act.put,hv11]
        have hown4:=d11
        have hbx:Below wr.heap.size wr W:=hB
        rw [show R.take k++[n]++R.drop k=withN xs n by rw [List.append_assoc,List.singleton_append];exact Hres.out] at hown4
        have hfin:=ownsRow_weak hown4 (show w.heap.size≤hz by rw [← hhz];exact Hb1.out.size)
        have Hfin:=Lib.hid hfin
        have HbF:=Lib.hid (below_seq Hb1.out hbx)
        clear hfin hown4 hbx d11 hB
        refine wpAny_done (by kernel_rfl) ?_ _
        go_simp
        go_wp2
        go_ret
        exact⟨v11,rfl,Hfin.out,HbF.out⟩
theorem setK_length (S:List Int) (x:Nat × Nat):(Pln.setK S x).length≤S.length+1:=by
 unfold Pln.setK
 split
 · exact ups_length _
 · split
   · exact Nat.le_trans (List.length_filter_le _ _) (Nat.le_succ _)
   · exact Nat.le_succ _
theorem foldK_length:∀(l:List (Nat × Nat)) (S:List Int),(l.foldl Pln.setK S).length≤S.length+l.length
 | [],_=>Nat.le_refl _
 | x::l,S=>by
   have h1:=foldK_length l (Pln.setK S x)
   have h2:=setK_length S x
   rw [List.foldl_cons,List.length_cons]
   omega
theorem foldS_length (l:List (Nat × Nat)):(Pln.foldS l).length≤l.length:=by
 have h:=foldK_length l []
 simpa [Pln.foldS] using h
theorem left_any (v:Value) (l:List Pln.Pst) (w:World) (h:Pln.PostsAt w v l) (hl:l.length≤1000):
 Calls Tryz.prog 35 #[v] w fun e w'=>∃ v',e= .returned v'∧IntsAt w' v' (Pln.foldS (l.map fun p:Pln.Pst=>(p.kind,p.id)))∧Below w.heap.size w w':=by
 obtain⟨ao,cap,rfl,hlm,hc⟩:=h
 obtain⟨ks,hks⟩:∃ ks:List (Nat × Nat),(l.map fun p:Pln.Pst=>(p.kind,p.id))=ks:=⟨_,rfl⟩
 have hkl:ks.length=l.length:=by rw [← hks,List.length_map]
 have hka:∀(i:Nat) (p:Pln.Pst),l[i]? =some p→ks[i]? =some (p.kind,p.id):=fun i p hp=>by rw [← hks,List.getElem?_map,hp];rfl
 have hln:(l.length:Int)≤1000:=by omega
 have Hc:=Lib.hid hc
 have Hka:=Lib.hid hka
 have Hkl:=Lib.hid hkl
 rw [hks]
 clear hc hka hks hkl hlm
 go_enter Tryz.func35,Tryz.ntmps35
 go_wp2
 go_loopw [3,4] (fun vo vi wr=>∃ i:Nat,i≤l.length∧vi= .int .i64 (i:Int)∧IntsAt wr vo (Pln.foldS (ks.take i))∧Below w.heap.size w wr) (fun _ vi _=>l.length-(intOf vi).toNat)
 case atStart=>exact⟨0,Nat.zero_le _,rfl,IntsAt.nil _ _ _,Below.refl _ _⟩
 case round=>
  obtain⟨i,hi,rfl,hat,hb⟩:=hrel
  have Hat:=Lib.hid hat
  have Hb:=Lib.hid hb
  have hat2:=hat
  obtain⟨oa,oc,hv,-⟩:=hat2
  subst hv
  clear hat hb
  by_cases hlt:i<l.length
  · have hlt':(i:Int)<(l.length:Int):=by omega
    obtain⟨p,hp⟩:∃ p,l[i]? =some p:=⟨_,List.getElem?_eq_getElem hlt⟩
    obtain⟨b,o,rfl,hcell⟩:=Hc.out i p hp
    have c3:wr.cell? ⟨b,o+i*5+3,none⟩=some (.int .i64 (p.kind:Int)):=cell_below Hb.out (hcell 3 _ rfl)
    have c4:wr.cell? ⟨b,o+i*5+4,none⟩=some (.int .i64 (p.id:Int)):=cell_below Hb.out (hcell 4 _ rfl)
    have hsn:Pln.foldS (ks.take (i+1))=Pln.setK (Pln.foldS (ks.take i)) (p.kind,p.id):=by rw [take_snoc (Hka.out i p hp),Pln.foldS_snoc]
    have hle:(Pln.foldS (ks.take i)).length≤1000:=Nat.le_trans (foldS_length _) (by rw [List.length_take,Hkl.out];omega)
    have hri:=Pln.foldS_rise (ks.take i)
    have Hsn:=Lib.hid hsn
    have Hle:=Lib.hid hle
    have Hri:=Lib.hid hri
    obtain⟨S,hS⟩:∃ S,Pln.foldS (ks.take i)=S:=⟨_,rfl⟩
    rw [hS] at Hsn Hle Hri Hat
    rw [hS]
    clear hcell hsn hle hri hp hS
    unfold Pln.setK at Hsn
    by_cases h1:p.kind=1
    · rw [h1] at c3
      change wr.cell? _=some (.int .i64 1) at c3
      rw [if_pos h1] at Hsn
      have hW:=refWith_any _ S (p.id:Int) wr Hat.out Hri.out (by have:=Hle.out;omega)
      have HW:=Lib.hid hW
      clear hW h1
      go_wp2_with fail
      refine HW.out.mono ?_
      rintro e w2 ⟨v2,rfl,hown,hb2⟩
      have hnx:IntsAt w2 v2 (Pln.foldS (ks.take (i+1)))∧Below w.heap.size w w2:=⟨by rw [Hsn.out];exact IntsAt.own hown rfl,below_seq Hb.out hb2⟩
      have Hnx:=Lib.hid hnx
      clear hown hb2 hnx
      go_wp2
      go_roundw
      case rel=>exact⟨i+1,by omega,by simp,Hnx.out.1,Hnx.out.2⟩
      case measure=>simp [intOf];omega
    · rw [if_neg h1] at Hsn
      by_cases h2:p.kind=2
      · rw [h2] at c3
        change wr.cell? _=some (.int .i64 2) at c3
        rw [if_pos h2] at Hsn
        have hW:=refWithout_any _ S (p.id:Int) wr Hat.out (by have:=Hle.out;omega)
        have HW:=Lib.hid hW
        clear hW h1 h2
        go_wp2_with fail
        refine HW.out.mono ?_
        rintro e w2 ⟨v2,rfl,hown,hb2⟩
        have hnx:IntsAt w2 v2 (Pln.foldS (ks.take (i+1)))∧Below w.heap.size w w2:=⟨by rw [Hsn.out];exact IntsAt.own hown rfl,below_seq Hb.out hb2⟩
        have Hnx:=Lib.hid hnx
        clear hown hb2 hnx
        go_wp2
        go_roundw
        case rel=>exact⟨i+1,by omega,by simp,Hnx.out.1,Hnx.out.2⟩
        case measure=>simp [intOf];omega
      · rw [if_neg h2] at Hsn
        have hn1:¬ (p.kind:Int)=1:=by omega
        have hn2:¬ (p.kind:Int)=2:=by omega
        clear h1 h2
        go_wp2
        go_roundw
        case rel=>exact⟨i+1,by omega,by simp,by rw [Hsn.out];exact Hat.out,Hb.out⟩
        case measure=>simp [intOf];omega
  · obtain rfl:i=l.length:=by omega
    have hat:IntsAt wr (.slice oa (Pln.foldS (ks.take l.length)).length oc) (Pln.foldS ks):=by
     have h:=Hat.out
     rw [← Hkl.out,List.take_length] at h ⊢
     exact h
    have Hat2:=Lib.hid hat
    clear hat Hat
    generalize (Pln.foldS (ks.take l.length)).length=z at Hat2 ⊢
    go_wp2
    go_ret
    exact⟨_,rfl,Hat2.out,Hb.out⟩
end Go.Proofs.YtpnbkfboneabaaaGreat
namespace Go.Proofs.YtpnbkfboneabaaaGreat.planGone
open Go.ChangeShapes Go.WideShapes Go.ChangeAt Go.RowKit Go.WideMaps
theorem walk [Sha.Words] (real:Bool) (key:Int) (hkey: -9223372036854775808≤key∧key≤9223372036854775807) (draws raw:Value) (a:Int) (ha: -9223372036854775808≤a∧a≤9223372036854775807) (b:Int) (hb: -9223372036854775808≤b∧b≤9223372036854775807) (w:World) (hR:Sha.RoundIn w) (hD:IntsIn draws w) (hQ:RowsIn 3 raw w):
 Calls Tryz.prog 10 #[.bool real,.int .i64 key,draws,raw,.int .i64 a,.int .i64 b] w fun e w'=>e= .returned (.bool true)∧Below w.heap.size w w':=by
 have hAw:=awake19_any w hR
 have hDr:=fun W (hb:Below w.heap.size w W)=>Draws_any draws false W (ints_below hD hb)
 have hOr:=fun s (hs:s.size=2000) W=>Oracle_any real key hkey s 0 (by omega) (Nat.zero_le _) W
 have hPo:=fun W (hb:Below w.heap.size w W)=>Posts_any raw W (rows_below hQ hb)
 obtain⟨K,hK⟩:∃ K,keyB key=K:=⟨_,rfl⟩
 have hKs:K.size=32:=by rw [← hK];exact keyB_size key
 rw [hK] at hOr
 obtain⟨m,hm⟩:∃ m:Int,(if real=true then 1 else 2)=m:=⟨_,rfl⟩
 have hm12:m=1∨m=2:=by rw [← hm];cases real <;> simp
 rw [hm] at hOr
 obtain⟨da,dl,dc,rfl⟩:∃ da dl dc,draws= .slice da dl dc:=by
  obtain⟨a,b,c,h,_⟩:=ints_one hD
  exact⟨a,b,c,h⟩
 obtain⟨ra,rl,rc,rfl⟩:∃ da dl dc,raw= .slice da dl dc:=by
  rcases hQ with rfl | ⟨a,len,cap,Z,rfl,h1,h2,h3⟩
  · exact⟨_,_,_,rfl⟩
  · exact⟨_,_,_,rfl⟩
 unfold Orc.vals at hOr
 have HhAw:=Lib.hid hAw
 have HhDr:=Lib.hid hDr
 have HhOr:=Lib.hid hOr
 have HhPo:=Lib.hid hPo
 have HhR:=Lib.hid hR
 have HhKs:=Lib.hid hKs
 have Hhm12:=Lib.hid hm12
 have Hha:=Lib.hid ha
 have Hhb:=Lib.hid hb
 clear ha hb
 clear hAw hDr hOr hPo hR hKs hm12 hK hm hD hQ hkey
 go_enter Tryz.func10,Tryz.ntmps10
 go_wp2_with fail
 refine HhAw.out.mono ?_
 rintro e w1 ⟨rfl,hb1⟩
 go_wp2_with fail
 refine(HhDr.out _ hb1).mono ?_
 rintro e w2 ⟨s,hs,rfl,hb2⟩
 have hb02:=below_seq hb1 hb2
 clear hb1 hb2 HhAw HhDr
 go_wp2_with fail
 refine(HhOr.out s hs _).mono ?_
 rintro e w3 ⟨rfl,hb3⟩
 have hb03:=below_seq hb02 hb3
 obtain⟨g3,hg3⟩:∃ g3,w3.heap.size=g3:=⟨_,rfl⟩
 have p3:=Row.new w3 34 #[.int .i64 m,.string K,.string s,.int .i64 0,.slice none 0 0,.slice none 0 0,.bool false]
 rw [hg3] at p3
 have hb04:=below_seq hb03 ((Below.refl _ w3).alloc (Nat.le_refl _) (.cells #[.int .i64 m,.string K,.string s,.int .i64 0,.slice none 0 0,.slice none 0 0,.bool false] 34))
 have P3:=Lib.hid p3
 have Hb4:=Lib.hid hb04
 have Hs:=Lib.hid hs
 clear hb02 hb03 hb3 hb04 p3 hs HhOr
 go_wp2_with fail
 refine(HhPo.out _ Hb4.out).mono ?_
 rintro e w5 ⟨u,Z,n,rfl,hpr,hb5⟩
 have hb05:=below_seq Hb4.out hb5
 obtain⟨l,hl⟩:∃ l,Pln.postsOf Z n=l:=⟨_,rfl⟩
 have hlg:∀ p∈l,p.Good:=by rw [← hl];exact Pln.postsOf_good Z n
 have hln:l.length≤12:=by rw [← hl,Pln.postsOf_length];omega
 rw [hl] at hpr
 have hpa:=hpr.at
 unfold Pln.PostRow at hpr
 obtain⟨ua,uc,rfl⟩:=slice_of hpr
 have hlu:=owns_cap hpr
 have p5:=P3.out.below hb5 P3.out.lt
 have z0:=p5.cell 0
 change World.cell? _ _=some _ at z0
 have z1:=p5.cell 1
 change World.cell? _ _=some _ at z1
 have z2:=p5.cell 2
 change World.cell? _ _=some _ at z2
 have z3:=p5.cell 3
 change World.cell? _ _=some _ at z3
 have z4:=p5.cell 4
 change World.cell? _ _=some _ at z4
 have z5:=p5.cell 5
 change World.cell? _ _=some _ at z5
 have z6:=p5.cell 6
 change World.cell? _ _=some _ at z6
 have hPA:=Pln.put_all (m:=m) Hhm12.out HhKs.out Hs.out hlg (by omega)
 obtain⟨Q,Ls,Cs,hPA⟩:∃ Q Ls Cs,Pln.PutAll (Pln.fo m K s) Q l Ls Cs:=⟨_,_,_,hPA⟩
 have hput:=hPA.put (.slice ua l.length uc) w5 (HhR.out.below hb05) hpa
 dsimp only [Pln.fo] at hput
 have Hput:=Lib.hid hput
 have HPA:=Lib.hid hPA
 have Hpa:=Lib.hid hpa
 have Hb5:=Lib.hid hb05
 have Hlg:=Lib.hid hlg
 clear hput hPA hpa hb05 hb5 hpr hlg hl p5 P3 Hb4 Hs
 have hl64:(l.length:Int)≤12:=by omega
 go_wp2_with fail
 refine Hput.out.mono ?_
 rintro e w9 ⟨lo,lc,co,cc,na,nk,oa,ok,rfl,hsl,hsc,hN,hC,hb9⟩
 clear Hput z0 z1 z2 z3 z4 z5 z6
 obtain⟨gq,hgq⟩:∃ gq,w9.heap.size=gq:=⟨_,rfl⟩
 have hb9A:Below w9.heap.size w9 ((w9.alloc (.cells #[.int .i64 1,.slice lo l.length lc,.slice co l.length cc] 49)).alloc (.cells #[.int .i64 Q.m,.string Q.key,.string Q.d.tb,.int .i64 (Q.d.pos:Int),.slice na Q.d.nm.length nk,.slice oa Q.d.cl.length ok,.bool Q.d.clash] 34)):=((Below.refl _ w9).alloc (Nat.le_refl _) _).alloc (by simp) _
 have pq:=(Row.new w9 49 #[.int .i64 1,.slice lo l.length lc,.slice co l.length cc]).alloc (.cells #[.int .i64 Q.m,.string Q.key,.string Q.d.tb,.int .i64 (Q.d.pos:Int),.slice na Q.d.nm.length nk,.slice oa Q.d.cl.length ok,.bool Q.d.clash] 34)
 have po:=Row.new (w9.alloc (.cells #[.int .i64 1,.slice lo l.length lc,.slice co l.length cc] 49)) 34 #[.int .i64 Q.m,.string Q.key,.string Q.d.tb,.int .i64 (Q.d.pos:Int),.slice na Q.d.nm.length nk,.slice oa Q.d.cl.length ok,.bool Q.d.clash]
 rw [World.size_alloc] at po
 rw [hgq] at pq po
 have hbA:=below_seq Hb5.out (hb9.trans (hb9A.mono hb9.size))
 have hnl:=hsl.cap
 have hnc:=hsc.cap
 have hlA:=hsl.isIn.below hb9A
 have hcA:=hsc.isIn.below hb9A
 have hNA:=owns_below hN hb9A
 have hCA:=owns_below hC hb9A
 have hpA:=Hpa.out.below (hb9.trans (hb9A.mono hb9.size))
 have hcin:=hsc.in
 obtain⟨wA,hwA⟩:∃ wA,((w9.alloc (.cells #[.int .i64 1,.slice lo l.length lc,.slice co l.length cc] 49)).alloc (.cells #[.int .i64 Q.m,.string Q.key,.string Q.d.tb,.int .i64 (Q.d.pos:Int),.slice na Q.d.nm.length nk,.slice oa Q.d.cl.length ok,.bool Q.d.clash] 34))=wA:=⟨_,rfl⟩
 have hzA:wA.heap.size=gq+2:=by rw [← hwA];simp [hgq]
 rw [hwA] at pq po hbA hlA hcA hNA hCA hpA
 have Hpq:=Lib.hid pq
 have Hpo:=Lib.hid po
 have HhbA:=Lib.hid hbA
 have HhlA:=Lib.hid hlA
 have HhcA:=Lib.hid hcA
 have HhNA:=Lib.hid hNA
 have HhCA:=Lib.hid hCA
 have HhpA:=Lib.hid hpA
 have Hhcin:=Lib.hid hcin
 have HhwA:=Lib.hid hwA
 have HhzA:=Lib.hid hzA
 clear pq po hbA hlA hcA hNA hCA hpA hb9A hsl hsc hN hC hb9 Hb5 Hpa hcin hwA hzA
 have hcl:Hid (Q.d.clash=Q.d.clash):=Lib.hid rfl
 obtain⟨cl,hcl⟩:∃ cl,Q.d.clash=cl:=⟨_,rfl⟩
 rw [hcl] at Hpo HhwA
 have Hcl:=Lib.hid hcl
 rw [hcl]
 clear hcl
 cases cl with
 | true=>
   have hbE:=HhbA.out
   rw [← HhwA.out] at hbE
   have HbE:=Lib.hid hbE
   clear hbE
   go_wp2
   go_ret
   exact⟨rfl,HbE.out⟩
 | false=>
   have hP:=fun W=>pick19_any b (l.length+1) Hhb.out (by omega) W
   obtain⟨k,ek,lk⟩:=pick_nat b (l.length+1) (by omega)
   change pickOf b ((l.length:Int)+1)=(k:Int) at ek
   rw [ek] at hP
   have hk:k≤l.length:=by omega
   have HP:=Lib.hid hP
   clear hP ek lk
   go_wp2_with fail
   refine(HP.out _).mono ?_
   rintro e wx ⟨rfl,rfl⟩
   rw [HhwA.out]
   have hfold:=fun W (hb:Below wA.heap.size wA W)=>HPA.out.fold Hcl.out k (.slice na Q.d.nm.length nk) (.slice oa Q.d.cl.length ok) (.slice lo k lc) (.slice co k cc) W hk (HhR.out.below (HhbA.out.trans (hb.mono HhbA.out.size))) (owns_below HhNA.out hb) (owns_below HhCA.out hb) ((HhlA.out.take (by rw [HPA.out.ln];exact hk)).below hb) ((HhcA.out.take (by rw [HPA.out.cn];exact hk)).below hb)
   unfold Orc.agg Orc.vals at hfold
   rw [Hcl.out] at hfold
   obtain⟨F,hF⟩:∃ F,Pln.foldS ((Pln.kinds l).take k)=F:=⟨_,rfl⟩
   rw [hF] at hfold
   have HF:=Lib.hid hF
   have Hfold:=Lib.hid hfold
   clear hF hfold
   have hkc:k≤lc:=Nat.le_trans hk hnl
   have hkd:k≤cc:=Nat.le_trans hk hnc
   go_upto_region 10 with fail
   go_cut [20,21] from 61 to 73 (fun v20 v21 wx=>IntsAt wx v20 F∧v21= .int .i64 0∧Below wA.heap.size wA wx)
   case first=>
    refine wp_region_any (by kernel_rfl) ?_
    change wpAny _ _ _ _ _ _ _ (World.drew wA)
    refine wpAny_head 15 [62,63,64,65,66,67,68,69,70,71,61,72,73,20,21] 0 #[true,true,true,true,true,true,true,true,true,true,true,true,true,true,true] (fun j v W=>match j with
     | 0=>v= .agg #[.int .i64 Q.m,.string Q.key,.string Q.d.tb,.int .i64 (Q.d.pos:Int),.slice na Q.d.nm.length nk,.slice oa Q.d.cl.length ok,.bool false]
     | 1=>v= .pointer (some ⟨gq,1,none⟩)
     | 2=>v= .slice lo l.length lc
     | 3=>v= .int .i64 (k:Int)
     | 4=>v= .slice lo k lc
     | 5=>v= .pointer (some ⟨gq,2,none⟩)
     | 6=>v= .slice co l.length cc
     | 7=>v= .int .i64 (k:Int)
     | 8=>v= .slice co k cc
     | 9=>∃ v',v= .tuple #[v',.int .i64 0]∧IntsAt W v' F
     | 10=>∃ v',v= .tuple #[v',.int .i64 0]∧IntsAt W v' F
     | 11=>IntsAt W v F
     | 12=>v= .int .i64 0
     | 13=>IntsAt W v F
     | _=>v= .int .i64 0) (by kernel_rfl) (by kernel_rfl) (by kernel_rfl) (by kernel_rfl) ?_ ?_ ?_
    · intro j hj v W W' h hb
      rcases j with _ | _ | _ | _ | _ | _ | _ | _ | _ | _ | _ | _ | _ | _ | j
      all_goals first
       | exact h
       | (obtain⟨g,h1,h2,h3⟩:=h;exact⟨g,h1,h2,h3.below hb h3.lt⟩)
       | exact h.below hb
       | (obtain⟨v',h1,h2⟩:=h;exact⟨v',h1,h2.below hb⟩)
    · refine HSteps.cons rfl (fun x W ρ hB jj jk jq jx jy=> ?_) (HSteps.cons rfl (fun x W ρ hB jj jk jq jx jy=> ?_) (HSteps.cons rfl (fun x W ρ hB jj jk jq jx jy=> ?_) (HSteps.cons rfl (fun x W ρ hB jj jk jq jx jy=> ?_) (HSteps.cons rfl (fun x W ρ hB jj jk jq jx jy=> ?_) (HSteps.cons rfl (fun x W ρ hB jj jk jq jx jy=> ?_) (HSteps.cons rfl (fun x W ρ hB jj jk jq jx jy=> ?_) (HSteps.cons rfl (fun x W ρ hB jj jk jq jx jy=> ?_) (HSteps.cons rfl (fun x W ρ hB jj jk jq jx jy=> ?_) (HSteps.cons rfl (fun x W ρ hB jj jk jq jx jy=> ?_) (HSteps.cons rfl (fun x W ρ hB jj jk jq jx jy=> ?_) (HSteps.cons rfl (fun x W ρ hB jj jk jq jx jy=> ?_) (HSteps.cons rfl (fun x W ρ hB jj jk jq jx jy=> ?_) (HSteps.cons rfl (fun x W ρ hB jj jk jq jx jy=> ?_) (HSteps.cons rfl (fun x W ρ hB jj jk jq jx jy=> ?_) (HSteps.nil (Nat.le_refl _))))))))))))))))
      · have e17:ρ (.tmp 17)= .pointer (some ⟨gq+1,0,none⟩):=jq 17 (by decide)
        have rO:=Hpo.out.below (below_drew hB) Hpo.out.lt
        have u0:=rO.cell 0
        have u1:=rO.cell 1
        have u2:=rO.cell 2
        have u3:=rO.cell 3
        have u4:=rO.cell 4
        have u5:=rO.cell 5
        have u6:=rO.cell 6
        change World.cell? _ _=some _ at u0 u1 u2 u3 u4 u5 u6
        clear rO
        clear jj jk jq
        refine Stepped.val ?_ rfl
        go_simp
      · have e16:ρ (.tmp 16)= .pointer (some ⟨gq,0,none⟩):=jq 16 (by decide)
        clear jj jk jq
        refine Stepped.val ?_ rfl
        go_simp
      · have e63:=(jk 1 63 rfl).trans (jj ⟨1,.data⟩ (by simp) rfl)
        have rQ:=Hpq.out.below (below_drew hB) Hpq.out.lt
        have u:=rQ.cell 1
        change World.cell? _ _=some _ at u
        clear rQ
        clear jj jk jq
        refine Stepped.val ?_ rfl
        go_simp
      · have e19:ρ (.tmp 19)= .int .i64 (k:Int):=jq 19 (by decide)
        clear jj jk jq
        refine Stepped.val ?_ rfl
        go_simp
      · have e64:=(jk 2 64 rfl).trans (jj ⟨2,.data⟩ (by simp) rfl)
        have e65:=(jk 3 65 rfl).trans (jj ⟨3,.data⟩ (by simp) rfl)
        clear jj jk jq
        refine Stepped.val ?_ rfl
        go_simp
      · have e16:ρ (.tmp 16)= .pointer (some ⟨gq,0,none⟩):=jq 16 (by decide)
        clear jj jk jq
        refine Stepped.val ?_ rfl
        go_simp
      · have e67:=(jk 5 67 rfl).trans (jj ⟨5,.data⟩ (by simp) rfl)
        have rQ:=Hpq.out.below (below_drew hB) Hpq.out.lt
        have u:=rQ.cell 2
        change World.cell? _ _=some _ at u
        clear rQ
        clear jj jk jq
        refine Stepped.val ?_ rfl
        go_simp
      · have e19:ρ (.tmp 19)= .int .i64 (k:Int):=jq 19 (by decide)
        clear jj jk jq
        refine Stepped.val ?_ rfl
        go_simp
      · have e68:=(jk 6 68 rfl).trans (jj ⟨6,.data⟩ (by simp) rfl)
        have e69:=(jk 7 69 rfl).trans (jj ⟨7,.data⟩ (by simp) rfl)
        clear jj jk jq
        refine Stepped.val ?_ rfl
        go_simp
      · have e62:=(jk 0 62 rfl).trans (jj ⟨0,.data⟩ (by simp) rfl)
        have e66:=(jk 4 66 rfl).trans (jj ⟨4,.data⟩ (by simp) rfl)
        have e70:=(jk 8 70 rfl).trans (jj ⟨8,.data⟩ (by simp) rfl)
        clear jj jk jq
        refine Stepped.call (f:=27) (args:=#[.agg #[.int .i64 Q.m,.string Q.key,.string Q.d.tb,.int .i64 (Q.d.pos:Int),.slice na Q.d.nm.length nk,.slice oa Q.d.cl.length ok,.bool false],.slice lo k lc,.slice co k cc]) ?_ ?_
        · go_simp
        · refine(Hfold.out W (below_drew hB)).mono ?_
          rintro e' W' ⟨⟨v',rfl,hv'⟩,hbx⟩
          exact⟨_,rfl,hbx,v',rfl,hv'⟩
      · have d9:=jj ⟨9,.data⟩ (by simp) rfl
        have e71:=jk 9 71 rfl
        obtain⟨v',d9a,d9b⟩:=d9
        rw [d9a] at e71
        clear jj jk jq
        refine Stepped.val ?_ ⟨_,rfl,d9b⟩
        go_simp
      · have d10:=jj ⟨10,.data⟩ (by simp) rfl
        have e61:=jk 10 61 rfl
        obtain⟨v',d10a,d10b⟩:=d10
        rw [d10a] at e61
        clear jj jk jq
        refine Stepped.val ?_ d10b
        go_simp
      · have d10:=jj ⟨10,.data⟩ (by simp) rfl
        have e61:=jk 10 61 rfl
        obtain⟨v',d10a,d10b⟩:=d10
        rw [d10a] at e61
        clear jj jk jq
        refine Stepped.val ?_ rfl
        go_simp
      · have d11:=jj ⟨11,.data⟩ (by simp) rfl
        have e72:=jk 11 72 rfl
        obtain⟨v',d11a⟩:∃ v',x 11=v':=⟨_,rfl⟩
        rw [d11a] at e72 d11
        clear jj jk jq
        refine Stepped.val ?_ d11
        go_simp
      · have e73:=(jk 12 73 rfl).trans (jj ⟨12,.data⟩ (by simp) rfl)
        clear jj jk jq
        refine Stepped.val ?_ rfl
        go_simp
    · intro x W hB hR
      have d13:=hR 13 (by decide)
      have d14:=hR 14 (by decide)
      clear hR
      change x 14=_ at d14
      simp only [putAll,Act.put,d14]
      refine wpAny_done (by kernel_rfl) ?_ _
      go_simp
      rename_i hKK
      refine hKK _ _ ?_
      go_meet
      exact⟨d13,rfl,below_drew hB⟩
   case rest=>
    obtain⟨hF20,rfl,hbc⟩:=hcut
    have h20:=hF20
    obtain⟨ia,ic,hv20,-⟩:=h20
    subst hv20
    have hleft:=left_any (.slice ua k uc) (l.take k) wc ((HhpA.out.take hk).below hbc) (by rw [List.length_take];omega)
    have hFe:Pln.foldS ((l.take k).map fun p=>(p.kind,p.id))=F:=by rw [← HF.out,← Pln.kinds_take];rfl
    rw [hFe] at hleft
    have hku:k≤uc:=Nat.le_trans hk hlu
    have Hleft:=Lib.hid hleft
    have HF20:=Lib.hid hF20
    have Hbc:=Lib.hid hbc
    clear hleft hFe hF20 hbc Hfold
    go_wp2_with fail
    refine Hleft.out.mono ?_
    rintro e wd ⟨v',rfl,hv',hbd⟩
    obtain⟨ja,jc,rfl⟩:∃ ia ic,v'= .slice ia F.length ic:=by obtain⟨a1,c1,h1,_⟩:=hv';exact⟨a1,c1,h1⟩
    have hI:=refInts_any _ _ F F wd (HF20.out.below hbd) hv'
    rw [decide_eq_true (rfl:F=F)] at hI
    have HI:=Lib.hid hI
    have Hbd:=Lib.hid (below_seq Hbc.out hbd)
    clear hI hbd hv' Hbc HF20 Hleft
    go_wp2_with fail
    refine HI.out.mono ?_
    rintro e we ⟨rfl,q,hq⟩
    have hbe:Below wA.heap.size wA we:=hq ▸ Below.trans_drewN Hbd.out q
    have Hbe:=Lib.hid hbe
    have Hbz:=Lib.hid (below_seq HhbA.out hbe)
    clear hq Hbd HI hbe
    by_cases h0:l.length=0
    · have h0':(l.length:Int)=0:=by omega
      go_wp2
      go_ret
      exact⟨rfl,Hbz.out⟩
    · have h0':¬ (l.length:Int)=0:=by omega
      obtain⟨gc,rfl⟩:∃ gc,co=some ⟨gc,0,none⟩:=by
       rcases Hhcin.out with ⟨_,h,_⟩ | ⟨g,h,_⟩
       · exact absurd h h0
       · exact⟨g,h⟩
      obtain⟨i0,hi0,hz0,hz1,hz2⟩:=info_parts infoStr
      have hcz:(Cs.map Value.string).length=l.length*1:=by rw [List.length_map,HPA.out.cn,Nat.mul_one]
      have hce:StrIn we (.slice (some ⟨gc,0,none⟩) l.length cc) Cs:=HhcA.out.below Hbe.out
      have hcd:∀(j:Nat) (u:Value),(Cs.map Value.string)[j]? =some u→we.cell? ((⟨gc,0,none⟩:Addr).add j)=some u:=by
       intro j u hu
       obtain⟨ao,cap,he,_,hc⟩:=hce
       injection he with e1 e2 e3
       subst e1
       rw [List.getElem?_map] at hu
       cases hx:Cs[j]? with
       | none=>rw [hx] at hu;cases hu
       | some x=>
         rw [hx] at hu
         obtain⟨a1,ha,h2⟩:=hc j x hx
         rw [← Option.some.inj ha] at h2
         rw [h2,← Option.some.inj hu]
      have rq:=Hpq.out.below Hbe.out Hpq.out.lt
      have uq2:=rq.cell 2
      change World.cell? _ _=some _ at uq2
      have Hcd:=Lib.hid hcd
      have Hcz:=Lib.hid hcz
      clear hcd hcz hce rq
      go_wp2_with (at_builtin;go_must (refine wpList_append_own _ rfl _ _ 43 rfl we.heap.size 9 i0 _ 1 16 Tryz.underlying43 hi0 hz0 hz1 hz2 rfl (by decide) (.slice none 0 0) 0 [] rfl (World.ownsRow_nil _ _ _ 1) ⟨gc,0,none⟩ l.length cc (Cs.map Value.string) rfl Hcz.out Hcd.out (by intro u hu;obtain⟨x,-,rfl⟩:=List.mem_map.1 hu;rfl) ?b3 ?b4 (Nat.le_refl _) ?_))
      case b3=>unfold maxLen;omega
      case b4=>omega
      intro v' wf hown hgr _
      try rw [Nat.zero_add,List.nil_append] at hown
      have hbf:Below we.heap.size we wf:=keep_below (keep_grown hgr) (fun k _ e=>by cases e) (Nat.le_refl _)
      obtain⟨gd,kd,rfl,hgd,hgf⟩:=owns_row hown (by omega)
      have hsd:StrAt wf we.heap.size (.slice (some ⟨gd,0,none⟩) l.length kd) Cs:=by unfold StrAt;rw [HPA.out.cn];exact hown
      have hP2:=fun W=>pick19_any a l.length Hha.out (by omega) W
      obtain⟨j,ej,lj⟩:=pick_nat a l.length (by omega)
      change pickOf a (l.length:Int)=(j:Int) at ej
      rw [ej] at hP2
      have hj:j<l.length:=by omega
      have hj':(j:Int)<(l.length:Int):=by omega
      obtain⟨⟨old,hold⟩,hfz,hst⟩:=hsd.store (j:=j) (by rw [HPA.out.cn];exact hj) ⟨#[]⟩
      have hgA:gq+2≤gd:=by have:=HhzA.out;have:=Hbe.out.size;omega
      have hne1:gq≠gd:=by omega
      have hne2:gq+1≠gd:=by omega
      have hbAf:=below_seq Hbe.out hbf
      have hbS:Below wA.heap.size wA (wf.setCell ⟨gd,j,none⟩ (.string ⟨#[]⟩)):=hbAf.setCell (p:=⟨gd,j,none⟩) (by rw [HhzA.out];exact hgA) _
      have hns:wA.heap.size≤wf.heap.size:=hbAf.size
      have rQ:=Hpq.out.below hbAf Hpq.out.lt
      have rO:=Hpo.out.below hbAf Hpo.out.lt
      have uq1:=rQ.cell 1
      change World.cell? _ _=some _ at uq1
      have u0:=rO.cell 0
      change World.cell? _ _=some _ at u0
      have u1:=rO.cell 1
      change World.cell? _ _=some _ at u1
      have u2:=rO.cell 2
      change World.cell? _ _=some _ at u2
      have u3:=rO.cell 3
      change World.cell? _ _=some _ at u3
      have u4:=rO.cell 4
      change World.cell? _ _=some _ at u4
      have u5:=rO.cell 5
      change World.cell? _ _=some _ at u5
      have u6:=rO.cell 6
      change World.cell? _ _=some _ at u6
      have hstop:=HPA.out.stop Hcl.out j (.slice na Q.d.nm.length nk) (.slice oa Q.d.cl.length ok) (.slice lo l.length lc) (.slice (some ⟨gd,0,none⟩) l.length kd) ⟨#[]⟩ 30 _ hj (HhR.out.below (below_seq HhbA.out hbS)) (owns_below HhNA.out hbS) (owns_below HhCA.out hbS) (HhlA.out.below hbS) hst.isIn (fun _ _=> .inl ⟨rfl,rfl⟩)
      unfold Orc.agg Orc.vals at hstop
      rw [Hcl.out] at hstop
      have hkd:l.length≤kd:=hsd.cap
      have hst1:StrIn (wf.setCell ⟨gd,j,none⟩ (.string ⟨#[]⟩)) (.slice (if kd=1 then some ⟨gd,0,none⟩ else some ⟨gd,1,none⟩) (l.length-1) (kd-1)) ((Cs.set j ⟨#[]⟩).drop 1):=by
       have h2:=hst.isIn.drop (k:=1) (by rw [List.length_set,HPA.out.cn];omega) (kd-1)
       rw [List.length_set,HPA.out.cn] at h2
       by_cases hk1:kd=1
       · have he:(Cs.set j ⟨#[]⟩).drop 1=[]:=List.eq_nil_of_length_eq_zero (by rw [List.length_drop,List.length_set,HPA.out.cn];omega)
         rw [if_pos hk1,he]
         exact⟨_,kd-1,by rw [show l.length-1=0 by omega];rfl,Nat.zero_le _,fun i s hs=>by simp at hs⟩
       · rw [if_neg hk1]
         exact h2
      have hl1:1≤l.length:=by omega
      have hl2:(1:Int)≤(l.length:Int):=by omega
      have hl3:(1:Int)≤(kd:Int):=by omega
      have Hstop:=Lib.hid hstop
      have HP2:=Lib.hid hP2
      have HbS:=Lib.hid hbS
      have Hst1:=Lib.hid hst1
      have Hown:=Lib.hid hown
      clear hstop hP2 hbS hst1 hst hsd hown hgr rQ rO hbf hbAf ej lj uq2 Hcd Hcz hi0 hz0 hz1 hz2 Hbe Hbz
      go_wp2_with fail
      refine(HP2.out _).mono ?_
      rintro e wx ⟨rfl,rfl⟩
      go_wp2_with fail
      refine Hstop.out.mono ?_
      rintro e wg ⟨rfl,hbg⟩
      have hbG:=below_seq HbS.out hbg
      have hbad:=fun W (hb:Below wg.heap.size wg W)=>fold_bad Q HPA.out.good (.slice na Q.d.nm.length nk) (.slice oa Q.d.cl.length ok) Ls _ (.slice lo l.length lc) _ W (owns_below HhNA.out (below_seq hbG hb)) (owns_below HhCA.out (below_seq hbG hb)) (HhlA.out.below (below_seq hbG hb)) ((Hst1.out.below hbg).below hb) (by rw [List.length_drop,List.length_set,HPA.out.ln,HPA.out.cn];omega)
      unfold Orc.agg Orc.vals at hbad
      rw [Hcl.out] at hbad
      have Hbad:=Lib.hid hbad
      have HbG:=Lib.hid hbG
      clear hbad hbG hbg HbS Hst1 Hstop HP2 u0 u1 u2 u3 u4 u5 u6 uq1
      go_upto_region 18 with fail
      go_cut [26] from 106 to 114 (fun v26 wx=>v26= .int .i64 1∧Below wg.heap.size wg wx)
      case first=>
       refine wp_region_any (by kernel_rfl) ?_
       change wpAny _ _ _ _ _ _ _ (World.drew wg)
       refine wpAny_head 11 [107,108,109,110,111,112,106,113,114,25,26] 0 #[true,true,true,true,true,true,true,true,true,true,true] (fun j v W=>match j with
        | 0=>v= .agg #[.int .i64 Q.m,.string Q.key,.string Q.d.tb,.int .i64 (Q.d.pos:Int),.slice na Q.d.nm.length nk,.slice oa Q.d.cl.length ok,.bool false]
        | 1=>v= .pointer (some ⟨gq,1,none⟩)
        | 2=>v= .slice lo l.length lc
        | 3=>v= .slice (some ⟨gd,0,none⟩) l.length kd
        | 4=>v=(.slice (if kd=1 then some ⟨gd,0,none⟩ else some ⟨gd,1,none⟩) (l.length-1) (kd-1))
        | 5=>v= .tuple #[.slice none 0 0,.int .i64 1]
        | 6=>v= .tuple #[.slice none 0 0,.int .i64 1]
        | 7=>v= .slice none 0 0
        | 8=>v= .int .i64 1
        | 9=>v= .slice none 0 0
        | _=>v= .int .i64 1) (by kernel_rfl) (by kernel_rfl) (by kernel_rfl) (by kernel_rfl) ?_ ?_ ?_
       · intro j hj v W W' h hb
         rcases j with _ | _ | _ | _ | _ | _ | _ | _ | _ | _ | j
         all_goals first
          | exact h
          | (obtain⟨g,h1,h2,h3⟩:=h;exact⟨g,h1,h2,h3.below hb h3.lt⟩)
       · refine HSteps.cons rfl (fun x W ρ hB jj jk jq jx jy=> ?_) (HSteps.cons rfl (fun x W ρ hB jj jk jq jx jy=> ?_) (HSteps.cons rfl (fun x W ρ hB jj jk jq jx jy=> ?_) (HSteps.cons rfl (fun x W ρ hB jj jk jq jx jy=> ?_) (HSteps.cons rfl (fun x W ρ hB jj jk jq jx jy=> ?_) (HSteps.cons rfl (fun x W ρ hB jj jk jq jx jy=> ?_) (HSteps.cons rfl (fun x W ρ hB jj jk jq jx jy=> ?_) (HSteps.cons rfl (fun x W ρ hB jj jk jq jx jy=> ?_) (HSteps.cons rfl (fun x W ρ hB jj jk jq jx jy=> ?_) (HSteps.cons rfl (fun x W ρ hB jj jk jq jx jy=> ?_) (HSteps.cons rfl (fun x W ρ hB jj jk jq jx jy=> ?_) (HSteps.nil (Nat.le_refl _))))))))))))
         · have e17:ρ (.tmp 17)= .pointer (some ⟨gq+1,0,none⟩):=jq 17 (by decide)
           have rO:=Hpo.out.below (below_seq HbG.out (below_drew hB)) Hpo.out.lt
           have u0:=rO.cell 0
           have u1:=rO.cell 1
           have u2:=rO.cell 2
           have u3:=rO.cell 3
           have u4:=rO.cell 4
           have u5:=rO.cell 5
           have u6:=rO.cell 6
           change World.cell? _ _=some _ at u0 u1 u2 u3 u4 u5 u6
           clear rO
           clear jj jk jq
           refine Stepped.val ?_ rfl
           go_simp
         · have e16:ρ (.tmp 16)= .pointer (some ⟨gq,0,none⟩):=jq 16 (by decide)
           clear jj jk jq
           refine Stepped.val ?_ rfl
           go_simp
         · have e108:=(jk 1 108 rfl).trans (jj ⟨1,.data⟩ (by simp) rfl)
           have rQ:=Hpq.out.below (below_seq HbG.out (below_drew hB)) Hpq.out.lt
           have u:=rQ.cell 1
           change World.cell? _ _=some _ at u
           clear rQ
           clear jj jk jq
           refine Stepped.val ?_ rfl
           go_simp
         · have e22:ρ (.tmp 22)= .slice (some ⟨gd,0,none⟩) l.length kd:=jq 22 (by decide)
           clear jj jk jq
           refine Stepped.val ?_ rfl
           go_simp
         · have e110:=(jk 3 110 rfl).trans (jj ⟨3,.data⟩ (by simp) rfl)
           clear jj jk jq
           refine Stepped.val ?_ rfl
           go_simp
         · have e107:=(jk 0 107 rfl).trans (jj ⟨0,.data⟩ (by simp) rfl)
           have e109:=(jk 2 109 rfl).trans (jj ⟨2,.data⟩ (by simp) rfl)
           have e111:=(jk 4 111 rfl).trans (jj ⟨4,.data⟩ (by simp) rfl)
           clear jj jk jq
           refine Stepped.call (f:=27) (args:=#[.agg #[.int .i64 Q.m,.string Q.key,.string Q.d.tb,.int .i64 (Q.d.pos:Int),.slice na Q.d.nm.length nk,.slice oa Q.d.cl.length ok,.bool false],.slice lo l.length lc,(.slice (if kd=1 then some ⟨gd,0,none⟩ else some ⟨gd,1,none⟩) (l.length-1) (kd-1))]) ?_ ?_
           · go_simp
           · refine(Hbad.out W (below_drew hB)).mono ?_
             rintro e' W' ⟨rfl,hbx⟩
             exact⟨_,rfl,hbx,rfl⟩
         · have e112:=(jk 5 112 rfl).trans (jj ⟨5,.data⟩ (by simp) rfl)
           clear jj jk jq
           refine Stepped.val ?_ rfl
           go_simp
         · have e106:=(jk 6 106 rfl).trans (jj ⟨6,.data⟩ (by simp) rfl)
           clear jj jk jq
           refine Stepped.val ?_ rfl
           go_simp
         · have e106:=(jk 6 106 rfl).trans (jj ⟨6,.data⟩ (by simp) rfl)
           clear jj jk jq
           refine Stepped.val ?_ rfl
           go_simp
         · have e113:=(jk 7 113 rfl).trans (jj ⟨7,.data⟩ (by simp) rfl)
           clear jj jk jq
           refine Stepped.val ?_ rfl
           go_simp
         · have e114:=(jk 8 114 rfl).trans (jj ⟨8,.data⟩ (by simp) rfl)
           clear jj jk jq
           refine Stepped.val ?_ rfl
           go_simp
       · intro x W hB hR
         have d9:=hR 9 (by decide)
         have d10:=hR 10 (by decide)
         clear hR
         change x 9=_ at d9
         change x 10=_ at d10
         simp only [putAll,Act.put,d9,d10]
         refine wpAny_done (by kernel_rfl) ?_ _
         go_simp
         rename_i hKK
         refine hKK _ _ ?_
         go_meet
         exact⟨rfl,below_drew hB⟩
      case rest=>
       obtain⟨rfl,hbh⟩:=hcut
       have HbH:=Lib.hid (below_seq HhbA.out (below_seq HbG.out hbh))
       clear hbh HbG
       go_wp2
       go_ret
       exact⟨rfl,HbH.out⟩
theorem own:ownKnob Tryz.prog.godebug=none:=by kernel_rfl
theorem lay:laidOutB Tryz.prog=true:=by kernel_rfl
theorem lifted (os:Os) (started:os.Started) (H:Type) (enc:TypeId × Value→H):
 ReturnsInHanded {} Tryz.checked os 10 .any (Rows.planGoneSpec.pre6 enc Tryz.prog Tryz.f10 Rows.planGoneRow.domain false) (Rows.planGoneSpec.post enc Tryz.prog Tryz.f10 false true false false):=by
 refine returnsInHanded_of_change_shaped (C:=Tryz.checked) own started (by kernel_rfl) Tryz.func10
  (ChangeSpec.witness6 (enc:=enc) (C:=Tryz.checked) false ⟨#[],#[.bool false,.int .i64 0,.slice none 0 0,.slice none 0 0,.int .i64 0,.int .i64 0],[]⟩ 8 (by kernel_rfl) (by kernel_rfl) (by kernel_rfl) (by kernel_rfl)) ?_
 intro W base args ds gs before hval0 hW hcnd hsz0 hsh _
 have hval:∀(j:Nat) t v,Tryz.f10.params[j]? =some t→args[j]? =some v→Value.okWide Tryz.prog W .any base t v:=hval0
 have hsz:(DataW.weightsEach Tryz.prog (Tryz.f10.params.toList++Rows.planGoneSpec.plain.varTypes Tryz.prog) (ds++gs)).all (· ≤reachBytes)=true:=hsz0
 have hW':=hW
 obtain⟨p,q,hA0,hV,rfl,hfz,hnd⟩:=hW
 have hA:DataW.TrodAll enc Tryz.prog W 0 (fun _=>true) true Tryz.f10.params.toList args.toList ds p:=hA0
 rw [Tryz.params10] at hA hval hsz
 obtain⟨v0,vs0,d0,ds0,p0,q0,hargs,rfl,rfl,h0,r0⟩:=trodAll_cons hA
 obtain⟨v1,vs1,d1,ds1,p1,q1,rfl,rfl,rfl,h1,r1⟩:=trodAll_cons r0
 obtain⟨v2,vs2,d2,ds2,p2,q2,rfl,rfl,rfl,h2,r2⟩:=trodAll_cons r1
 obtain⟨v3,vs3,d3,ds3,p3,q3,rfl,rfl,rfl,h3,r3⟩:=trodAll_cons r2
 obtain⟨v4,vs4,d4,ds4,p4,q4,rfl,rfl,rfl,h4,r4⟩:=trodAll_cons r3
 obtain⟨v5,vs5,d5,ds5,p5,q5,rfl,rfl,rfl,h5,r5⟩:=trodAll_cons r4
 obtain⟨rfl,rfl,rfl⟩:=trodAll_nil r5
 obtain rfl:args=#[v0,v1,v2,v3,v4,v5]:=by cases args;simp_all
 obtain⟨rfl,rfl⟩:=trodVars_none hV
 obtain⟨a0,rfl,rfl,rfl⟩:=open_bool Tryz.underlying4 (hval 0 4 v0 rfl rfl) h0
 obtain⟨a1,rfl,rfl,rfl,w1⟩:=open_int Tryz.underlying3 (hval 1 3 v1 rfl rfl) h1
 have k2:=ints_open Tryz.underlying60 Tryz.underlying3 (by kernel_rfl) (hval 2 60 v2 rfl rfl) h2
 have k3:=rows_open Tryz.underlying25 Tryz.underlying88 Tryz.underlying3 (by kernel_rfl) (by kernel_rfl) (hval 3 25 v3 rfl rfl) h3
 obtain⟨a4,rfl,rfl,rfl,w4⟩:=open_int Tryz.underlying3 (hval 4 3 v4 rfl rfl) h4
 obtain⟨a5,rfl,rfl,rfl,w5⟩:=open_int Tryz.underlying3 (hval 5 3 v5 rfl rfl) h5
 obtain⟨kw,hkw⟩:=Sha.words_of hsh
 letI:Sha.Words:=⟨kw⟩
 have hRI:Sha.RoundIn W:=hkw
 refine(walk a0 a1 (bounds_i64 w1) v2 v3 a4 (bounds_i64 w4) a5 (bounds_i64 w5) W hRI k2 k3).mono fun e W' ⟨he,hg⟩=> ?_
 subst he
 have hts:∀ t∈Tryz.f10.params.toList,Tryz.prog.readableRec t=true∧t<Tryz.prog.types.size:=by
  rw [Tryz.params10]
  intro t ht
  simp only [List.mem_cons,List.not_mem_nil,or_false] at ht
  rcases ht with rfl | rfl | rfl | rfl | rfl | rfl <;> exact⟨by kernel_rfl,of_decide_eq_true (by kernel_rfl)⟩
 exact⟨_,rfl,post_true lay hts (by kernel_rfl) Tryz.underlying4 rfl rfl hW' hg⟩
end Go.Proofs.YtpnbkfboneabaaaGreat.planGone
