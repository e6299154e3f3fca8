import Derived.Test.YtpnbkfboneabaaaGreatAW
import Derived.Test.YtpnbkfboneabaaaGreatRows
import Derived.HandedShaped
set_option maxRecDepth 100000
set_option maxHeartbeats 4000000
namespace Go.Proofs.YtpnbkfboneabaaaGreat
open Go.RowKit
theorem bytesOf_inj {a b:ByteArray} (h:bytesOf a=bytesOf b):a=b:=by rw [← strOf_bytesOf a,← strOf_bytesOf b,h]
theorem asked_inj {x y:ByteArray} {e c f d:Nat} (hx:x.size≤20) (hy:y.size≤20) (he:e≤1000000) (hc:c≤1000000) (hf:f≤1000000) (hd:d≤1000000)
 (h:asked x e c=asked y f d):x=y∧e=f∧c=d:=by
 have four:∀ n,∀ z∈fourB n,z<256:=by
  intro n z hz
  simp only [fourB,List.mem_cons,List.not_mem_nil,or_false] at hz
  omega
 have all:∀(s:ByteArray) (e c:Nat),s.size≤20→Bs.All (askB s e c):=by
  intro s e c hs
  refine .of_mem fun z hz=> ?_
  unfold askB at hz
  rcases List.mem_append.1 hz with hz | hz
  · rcases List.mem_append.1 hz with hz | hz
    · rcases List.mem_append.1 hz with hz | hz
      · rw [List.mem_singleton] at hz
        omega
      · unfold bytesOf at hz
        obtain⟨u,_,rfl⟩:=List.mem_map.1 hz
        exact u.toNat_lt
    · exact four e z hz
  · exact four c z hz
 have h1:=strOf_inj (all x e c hx) (all y f d hy) h
 unfold askB at h1
 have hs:x.size=y.size:=by
  have h2:=congrArg (fun l=>l.getD 0 0) h1
  simpa using h2
 have h3:=List.append_inj h1 (by simp [fourB,bytesOf_length,hs])
 have h4:=List.append_inj h3.1 (by simp [bytesOf_length,hs])
 have h5:=List.append_inj h4.1 (by simp)
 exact⟨bytesOf_inj h5.2,fourB_inj (by omega) (by omega) h4.2,fourB_inj (by omega) (by omega) h3.2⟩
def words9:List ByteArray:=[⟨#[]⟩,⟨#[97]⟩,⟨#[97,98]⟩,⟨#[97,98,99]⟩,⟨#[119,111,114,100]⟩,⟨#[111,116,104,101,114,119,111,114,100]⟩]
def wordOf (c:Int):ByteArray:=words9.getD (pickOf c 6).toNat ⟨#[]⟩
theorem Word_any (c:Int) (hc: -9223372036854775808≤c∧c≤9223372036854775807) (w:World):
 Calls Tryz.prog 39 #[.int .i64 c] w fun e w'=>e= .returned (.string (wordOf c))∧Below w.heap.size w w':=by
 have hP:=fun W=>pick9_any c 6 hc (by decide) W
 obtain⟨k,hk,hk6⟩:∃ k:Nat,pickOf c 6=(k:Int)∧k<6:=pick_nat c 6 (by decide)
 unfold wordOf
 rw [hk] at hP ⊢
 have hb0:Below w.heap.size w (w.alloc (.cells #[.string ⟨#[]⟩,.string ⟨#[97]⟩,.string ⟨#[97,98]⟩,.string ⟨#[97,98,99]⟩,.string ⟨#[119,111,114,100]⟩,.string ⟨#[111,116,104,101,114,119,111,114,100]⟩] 9)):=(Below.refl _ w).alloc (Nat.le_refl _) _
 have HP:=Lib.hid hP
 clear hP hk hc
 rcases k with _ | _ | _ | _ | _ | _ | k
 all_goals first
  | omega
  | (go_enter Tryz.func39,Tryz.ntmps39
     go_wp2_with fail
     refine(HP.out _).mono ?_
     rintro e w1 ⟨rfl,rfl⟩
     go_wp2
     go_ret
     exact⟨rfl,hb0⟩)
namespace Pln
theorem prs_length [Sha.Words] (o:Orc) (l:List Pst):(prs o l).length=l.length:=by
 have:=congrArg List.length (prs_fst o l)
 simpa using this
end Pln
end Go.Proofs.YtpnbkfboneabaaaGreat
namespace Go.Proofs.YtpnbkfboneabaaaGreat
open Go.ChangeShapes Go.WideShapes Go.ChangeAt Go.RowKit Go.WideMaps
theorem mapM_mem {α β:Type} {f:α→Option β}:∀(l:List α) (ys:List β),l.mapM f=some ys→∀ x∈l,∃ y,f x=some y
 | [],_,_,x,hx=>by cases hx
 | a::l,ys,h,x,hx=>by
   rw [List.mapM_cons] at h
   simp only [bind,Option.bind_eq_some_iff,pure] at h
   obtain⟨y,hy,zs,hz,_⟩:=h
   rcases List.mem_cons.1 hx with rfl | hx
   · exact⟨y,hy⟩
   · exact mapM_mem l zs hz x hx
theorem trod_arr_ints {H:Type} {enc:TypeId × Value→H} {P:Program} {W:World} {base:Nat} {sp:Nat→Bool} {held:Bool} {k e:TypeId} {n:Nat} {q:IntKind} (hu:P.underlying k=some (.array n e)) (one:P.cellsOf e=1) (size:P.cellsOf k=n)
 (he:P.underlying e=some (.int q)) {fuel:Nat} {cs:List Value} {x:DataW H × List MemPlace} (hcs:cs.length=n) (h:DataW.trod enc P W base sp held fuel k cs=some x):
 ∀ j,j<n→∃ z,cs[j]? =some (.int q z)∧(Lit.int q z).wf=true:=by
 intro j hj
 cases fuel with
 | zero=>simp [DataW.trod] at h
 | succ m=>
   rw [DataW.trod_step] at h
   unfold DataW.trodStep at h
   simp only [hu] at h
   rw [if_pos (by rw [size];exact hcs)] at h
   simp only [Option.map_eq_some_iff] at h
   obtain⟨xs,hx,_⟩:=h
   obtain⟨y,hy⟩:=mapM_mem _ _ hx j (List.mem_range.2 hj)
   obtain⟨z,hz,_,wz⟩:=DataW.trod_int he hy
   refine⟨z,?_,wz⟩
   rw [one,Nat.mul_one] at hz
   have h0:((cs.drop j).take 1)[0]? =some (.int q z):=by rw [hz];rfl
   simpa using h0
theorem ints_open {H:Type} {enc:TypeId × Value→H} {P:Program} {w:World} {r:Reach} {b0:Nat} {t e:TypeId} {v:Value} {d:DataW H} {ps:List MemPlace} (ht:P.underlying t=some (.slice e)) (he:P.underlying e=some (.int .i64)) (hc:P.cellsOf e=1)
 (hval:Value.okWide P w r b0 t v) (hd:DataW.Trod enc P w 0 (fun _=>true) true t v d ps):IntsIn v w:=by
 obtain⟨a,len,cap,rfl⟩:=okWide_slice ht hval
 obtain⟨fuel,hf⟩:=hd
 rcases open_ints ht he hc hf with ⟨h,_⟩ | ⟨a',len',cap',zs,h,_,hl,hm,hz,_,hcell,hwf⟩
 · left
   simpa [Value.cells] using h
 · right
   simp only [if_true] at hz
   refine⟨a',len',cap',fun i=>zs.getD i 0,?_,hl,hm,fun i hi=> ?_⟩
   · simpa [Value.cells] using h
   · have hi2:i<zs.length:=by omega
     refine⟨hcell i hi2,?_⟩
     show -9223372036854775808≤zs.getD i 0∧zs.getD i 0≤9223372036854775807
     rw [List.getD_eq_getElem?_getD,List.getElem?_eq_getElem hi2]
     exact bounds_i64 (hwf _ (List.getElem_mem hi2))
def RowsIn (n:Nat) (v:Value) (w:World):Prop:=
 v= .slice none 0 0∨∃(a:Addr) (len cap:Nat) (Z:Nat→Nat→Int),v= .slice (some a) len cap∧len≤cap∧cap≤maxLen∧∀ i,i<len→∀ j,j<n→w.cell? ((a.add (i*n)).add j)=some (.int .i64 (Z i j))∧ -9223372036854775808≤Z i j∧Z i j≤9223372036854775807
theorem rows_open {H:Type} {enc:TypeId × Value→H} {P:Program} {w:World} {r:Reach} {b0:Nat} {t k e:TypeId} {n:Nat} {v:Value} {d:DataW H} {ps:List MemPlace} (ht:P.underlying t=some (.slice k)) (hu:P.underlying k=some (.array n e)) (he:P.underlying e=some (.int .i64)) (one:P.cellsOf e=1) (size:P.cellsOf k=n)
 (hval:Value.okWide P w r b0 t v) (hd:DataW.Trod enc P w 0 (fun _=>true) true t v d ps):RowsIn n v w:=by
 obtain⟨a,len,cap,rfl⟩:=okWide_slice ht hval
 obtain⟨fuel,hf⟩:=hd
 rcases Deep.open_slice ht hf with ⟨h,_⟩ | ⟨a',len',cap',m,q,D,Pl,h,_,hl,hm,hz,_,hx⟩
 · left
   simpa [Value.cells] using h
 · right
   simp only [if_true] at hz
   subst hz
   have each:∀ i,i<m→∃ f:Nat→Int,∀ j,j<n→w.cell? ((a'.add (i*n)).add j)=some (.int .i64 (f j))∧ -9223372036854775808≤f j∧f j≤9223372036854775807:=by
    intro i hi
    obtain⟨cs',h1,h2⟩:=hx i hi
    rw [size] at h1
    obtain⟨_,hlen,hcell⟩:=World.cells?_some h1
    refine Deep.choose_lt (α:=Int) (p:=fun j z=>w.cell? ((a'.add (i*n)).add j)=some (.int .i64 z)∧ -9223372036854775808≤z∧z≤9223372036854775807) (fun j hj=> ?_)
    obtain⟨z,hz,wz⟩:=trod_arr_ints hu one size he hlen h2 j hj
    refine⟨z,?_,bounds_i64 wz⟩
    have:=hcell j hj
    rw [this]
    first | exact hz | simpa using hz
   obtain⟨Z,hZ⟩:=Deep.choose_lt (α:=Nat→Int) each
   refine⟨a',len',m,Z,?_,hl,hm,fun i hi=>hZ i (by omega)⟩
   simpa [Value.cells] using h
end Go.Proofs.YtpnbkfboneabaaaGreat
namespace Go.Proofs.YtpnbkfboneabaaaGreat
open Go.RowKit
def keyB (key:Int):ByteArray:=strOf (List.replicate 32 (pickOf key 256).toNat)
theorem keyB_size (key:Int):(keyB key).size=32:=by
 unfold keyB
 rw [strOf_size,List.length_replicate]
theorem Oracle_any (real:Bool) (key:Int) (hkey: -9223372036854775808≤key∧key≤9223372036854775807) (tb:ByteArray) (p:Nat) (h1:tb.size≤65536) (h2:p≤tb.size) (w:World):
 Calls Tryz.prog 13 #[.bool real,.int .i64 key,.agg #[.string tb,.int .i64 (p:Int)],.slice none 0 0] w fun e w'=>e= .returned (.agg (Orc.vals (if real=true then 1 else 2) (keyB key) tb p (.slice none 0 0) (.slice none 0 0) false))∧Below w.heap.size w w':=by
 have hP:=fun W=>pick9_any key 256 hkey (by decide) W
 obtain⟨b,eb,lb⟩:=pick_nat key 256 (by decide)
 change pickOf key 256=(b:Int) at eb
 have hF:=fun W=>Fresh_any (if real=true then 1 else 2) b tb p h1 h2 W
 unfold keyB
 rw [eb] at hP ⊢
 rw [Int.toNat_natCast]
 obtain⟨K,hK⟩:∃ K,strOf (List.replicate 32 b)=K:=⟨_,rfl⟩
 obtain⟨m,hm⟩:∃ m:Int,(if real=true then 1 else 2)=m:=⟨_,rfl⟩
 rw [hK,hm] at hF ⊢
 have hb256:(b:Int)%256=(b:Int):=by omega
 have hbw:IntKind.u8.wrap (b:Int)=(b:Int):=by rw [IntKind.wrap_u8];omega
 unfold Orc.vals at*
 obtain⟨p0,q0,hb0,hz⟩:=box2 w #[.string tb,.int .i64 (p:Int)] #[.int .i64 0,.string ⟨#[]⟩,.string ⟨#[]⟩,.int .i64 0,.slice none 0 0,.slice none 0 0,.bool false] 23 34
 have HP:=Lib.hid hP
 have HF:=Lib.hid hF
 have c0:=p0.cell 0
 have c1:=p0.cell 1
 change World.cell? _ _=some _ at c0 c1
 obtain⟨W1,hW1⟩:∃ W1,((w.alloc (.cells #[.string tb,.int .i64 (p:Int)] 23)).alloc (.cells #[.int .i64 0,.string ⟨#[]⟩,.string ⟨#[]⟩,.int .i64 0,.slice none 0 0,.slice none 0 0,.bool false] 34))=W1:=⟨_,rfl⟩
 rw [hW1] at p0 q0 hb0 hz c0 c1
 have Hq:=Lib.hid q0
 have Hb:=Lib.hid hb0
 clear hP hF p0 q0 hb0 hK eb h1 h2 hkey
 go_enter Tryz.func13,Tryz.ntmps13
 cases real
 · obtain rfl:m=2:=hm.symm
   clear hm
   go_upto_region 4 with fail
   go_cut [10] from 17 to 22 (fun v wx=>∃ g,v= .pointer (some ⟨g,0,none⟩)∧W1.heap.size≤g∧Row wx g 34 #[.int .i64 2,.string K,.string tb,.int .i64 (p:Int),.slice none 0 0,.slice none 0 0,.bool false]∧Below W1.heap.size W1 wx)
   case first=>
    refine wp_region_any (by kernel_rfl) ?_
    change wpAny _ _ _ _ _ _ _ (World.drew W1)
    refine wpAny_head 7 [17,18,19,20,21,22,10] 1 #[true,true,true,true,true,true,true,false] (fun j v W=>match j with
     | 0=>v= .int .i64 2
     | 1=>v= .int .i64 key
     | 2=>v= .int .i64 (b:Int)
     | 3=>v= .int .u8 (b:Int)
     | 4=>v= .agg #[.string tb,.int .i64 (p:Int)]
     | 5=>v= .agg #[.int .i64 2,.string K,.string tb,.int .i64 (p:Int),.slice none 0 0,.slice none 0 0,.bool false]
     | _=>∃ g,v= .pointer (some ⟨g,0,none⟩)∧W1.heap.size≤g∧Row W g 34 #[.int .i64 0,.string ⟨#[]⟩,.string ⟨#[]⟩,.int .i64 0,.slice none 0 0,.slice none 0 0,.bool false]) (by kernel_rfl) (by kernel_rfl) (by kernel_rfl) (by kernel_rfl) ?_ ?_ ?_
    · intro j hj v W W' h hb
      rcases j with _ | _ | _ | _ | _ | _ | j
      all_goals first
       | exact h
       | (obtain⟨g,h1,h2,h3⟩:=h;exact⟨g,h1,h2,h3.below hb h3.lt⟩)
    · refine HSteps.cons rfl (fun x W ρ hB jj jk jq jx jy=> ?_) (HSteps.cons rfl (fun x W ρ hB jj jk jq jx jy=> ?_) (HSteps.cons rfl (fun x W ρ hB jj jk jq jx jy=> ?_) (HSteps.cons rfl (fun x W ρ hB jj jk jq jx jy=> ?_) (HSteps.cons rfl (fun x W ρ hB jj jk jq jx jy=> ?_) (HSteps.cons rfl (fun x W ρ hB jj jk jq jx jy=> ?_) (HSteps.cons rfl (fun x W ρ hB jj jk jq jx jy=> ?_) (HSteps.nil (Nat.le_refl _))))))))
      · skip
        have e9:=jq 9 (by decide)
        change ρ (.tmp 9)= .int .i64 2 at e9
        clear jj jk jq
        refine Stepped.val ?_ rfl
        go_simp
      · skip
        have e1:=jq 1 (by decide)
        change ρ (.tmp 1)= .int .i64 key at e1
        clear jj jk jq
        refine Stepped.val ?_ rfl
        go_simp
      · skip
        have d1:=jj ⟨1,.data⟩ (by simp) rfl
        have e18:=jk 1 18 rfl
        rw [show x 1=_ from d1] at e18
        clear jj jk jq
        refine Stepped.call (f:=37) (args:=#[.int .i64 key,.int .i64 256]) ?_ ?_
        · go_simp
        · skip
          refine(HP.out _).mono ?_
          rintro e W' ⟨rfl,rfl⟩
          exact⟨_,rfl,Below.refl _ _,rfl⟩
      · skip
        have d2:=jj ⟨2,.data⟩ (by simp) rfl
        have e19:=jk 2 19 rfl
        rw [show x 2=_ from d2] at e19
        clear jj jk jq
        refine Stepped.val ?_ rfl
        go_simp
      · skip
        have e6:=jq 6 (by decide)
        change ρ (.tmp 6)= .pointer (some ⟨w.heap.size,0,none⟩) at e6
        have z0:=cell_below hB c0
        have z1:=cell_below hB c1
        clear jj jk jq
        refine Stepped.val ?_ rfl
        go_simp
      · skip
        have d0:=jj ⟨0,.data⟩ (by simp) rfl
        have e17:=jk 0 17 rfl
        rw [show x 0=_ from d0] at e17
        have d3:=jj ⟨3,.data⟩ (by simp) rfl
        have e20:=jk 3 20 rfl
        rw [show x 3=_ from d3] at e20
        have d4:=jj ⟨4,.data⟩ (by simp) rfl
        have e21:=jk 4 21 rfl
        rw [show x 4=_ from d4] at e21
        clear jj jk jq
        refine Stepped.call (f:=36) (args:=#[.int .i64 2,.int .u8 (b:Int),.agg #[.string tb,.int .i64 (p:Int)]]) ?_ ?_
        · go_simp
        · skip
          refine(HF.out _).mono ?_
          rintro e W' ⟨rfl,hbx⟩
          exact⟨_,rfl,hbx,rfl⟩
      · skip
        clear jj jk jq
        refine Stepped.grow (v:= .pointer (some ⟨W.heap.size,0,none⟩)) (w':=W.alloc (.cells #[.int .i64 0,.string ⟨#[]⟩,.string ⟨#[]⟩,.int .i64 0,.slice none 0 0,.slice none 0 0,.bool false] 34)) ?_ ((Below.refl _ _).alloc (Nat.le_refl _) _) ⟨_,rfl,hB.size,Row.new W _ _⟩
        go_simp
    · intro x W hB hR
      have d0:=hR 0 (by decide)
      have d1:=hR 1 (by decide)
      have d2:=hR 2 (by decide)
      have d3:=hR 3 (by decide)
      have d4:=hR 4 (by decide)
      have d5:=hR 5 (by decide)
      obtain⟨g,d6,hg,hrow⟩:=hR 6 (by decide)
      clear hR
      change x 0=_ at d0
      change x 1=_ at d1
      change x 2=_ at d2
      change x 3=_ at d3
      change x 4=_ at d4
      change x 5=_ at d5
      change x 6=_ at d6
      have z0:W.cell? ⟨g,0,none⟩=some (.int .i64 0):=hrow.cell 0
      have z1:W.cell? ⟨g,1,none⟩=some (.string ⟨#[]⟩):=hrow.cell 1
      have z2:W.cell? ⟨g,2,none⟩=some (.string ⟨#[]⟩):=hrow.cell 2
      have z3:W.cell? ⟨g,3,none⟩=some (.int .i64 0):=hrow.cell 3
      have z4:W.cell? ⟨g,4,none⟩=some (.slice none 0 0):=hrow.cell 4
      have z5:W.cell? ⟨g,5,none⟩=some (.slice none 0 0):=hrow.cell 5
      have z6:W.cell? ⟨g,6,none⟩=some (.bool false):=hrow.cell 6
      have f0:=hrow.frozen 0
      have f1:=hrow.frozen 1
      have f2:=hrow.frozen 2
      have f3:=hrow.frozen 3
      have f4:=hrow.frozen 4
      have f5:=hrow.frozen 5
      have f6:=hrow.frozen 6
      simp only [putAll,Act.put,d0,d1,d2,d3,d4,d5,d6]
      refine wpAny_ready (rs:=[7]) (by kernel_rfl) (by simp) ?_
      refine AllReady.cons rfl (fun K hK=> ?_) AllReady.nil
      go_simp
      refine hK _ _ ?_
      clear hK K
      refine wpAny_done (by kernel_rfl) ?_ _
      go_wp2
      go_meet
      exact⟨g,rfl,hg,(((((((hrow.store 0 _).store 1 _).store 2 _).store 3 _).store 4 _).store 5 _).store 6 _),(((((((below_drew hB).setCell (p:=⟨g,0,none⟩) hg _).setCell (p:=⟨g,1,none⟩) hg _).setCell (p:=⟨g,2,none⟩) hg _).setCell (p:=⟨g,3,none⟩) hg _).setCell (p:=⟨g,4,none⟩) hg _).setCell (p:=⟨g,5,none⟩) hg _).setCell (p:=⟨g,6,none⟩) hg _⟩
   case rest=>
    obtain⟨g,rfl,hg,hrow,hbx⟩:=hcut
    have q1:=Hq.out.below hbx Hq.out.lt
    have hb1:=Hb.out.trans (hbx.mono Hb.out.size)
    have hlt:w.heap.size+1<W1.heap.size:=Hq.out.lt
    have z0:wc.cell? ⟨g,0,none⟩=some (.int .i64 2):=hrow.cell 0
    have z1:wc.cell? ⟨g,1,none⟩=some (.string K):=hrow.cell 1
    have z2:wc.cell? ⟨g,2,none⟩=some (.string tb):=hrow.cell 2
    have z3:wc.cell? ⟨g,3,none⟩=some (.int .i64 (p:Int)):=hrow.cell 3
    have z4:wc.cell? ⟨g,4,none⟩=some (.slice none 0 0):=hrow.cell 4
    have z5:wc.cell? ⟨g,5,none⟩=some (.slice none 0 0):=hrow.cell 5
    have z6:wc.cell? ⟨g,6,none⟩=some (.bool false):=hrow.cell 6
    have e0:wc.cell? ⟨w.heap.size+1,0,none⟩=some (.int .i64 0):=q1.cell 0
    have f0:=q1.frozen 0
    have e1:wc.cell? ⟨w.heap.size+1,1,none⟩=some (.string ⟨#[]⟩):=q1.cell 1
    have f1:=q1.frozen 1
    have e2:wc.cell? ⟨w.heap.size+1,2,none⟩=some (.string ⟨#[]⟩):=q1.cell 2
    have f2:=q1.frozen 2
    have e3:wc.cell? ⟨w.heap.size+1,3,none⟩=some (.int .i64 0):=q1.cell 3
    have f3:=q1.frozen 3
    have e4:wc.cell? ⟨w.heap.size+1,4,none⟩=some (.slice none 0 0):=q1.cell 4
    have f4:=q1.frozen 4
    have e5:wc.cell? ⟨w.heap.size+1,5,none⟩=some (.slice none 0 0):=q1.cell 5
    have f5:=q1.frozen 5
    have e6:wc.cell? ⟨w.heap.size+1,6,none⟩=some (.bool false):=q1.cell 6
    have f6:=q1.frozen 6
    clear c0 c1 hbx HP HF hW1
    have Hrow:=Lib.hid hrow
    have Hq1:=Lib.hid q1
    have Hb1:=Lib.hid hb1
    clear hrow q1 hb1
    go_wp2
    go_loopw [11] (fun vi wr=>vi= .int .i64 0∧wr=wc) (fun _ _=>0)
    case atStart=>exact⟨rfl,rfl⟩
    case round=>
     obtain⟨rfl,rfl⟩:=hrel
     go_wp2
     refine bodyPost_ret (results_cell_row rfl _ _ (w.heap.size+1) 34 #[.int .i64 2,.string K,.string tb,.int .i64 (p:Int),.slice none 0 0,.slice none 0 0,.bool false] (0,0) _ rfl (((((((Hq1.out.store 0 _).store 1 _).store 2 _).store 3 _).store 4 _).store 5 _).store 6 _) Tryz.underlying34 rfl (by kernel_rfl)) rfl ⟨rfl,?_⟩
     exact((((((Hb1.out.setCell (p:=⟨w.heap.size+1,0,none⟩) (Nat.le_succ _) _).setCell (p:=⟨w.heap.size+1,1,none⟩) (Nat.le_succ _) _).setCell (p:=⟨w.heap.size+1,2,none⟩) (Nat.le_succ _) _).setCell (p:=⟨w.heap.size+1,3,none⟩) (Nat.le_succ _) _).setCell (p:=⟨w.heap.size+1,4,none⟩) (Nat.le_succ _) _).setCell (p:=⟨w.heap.size+1,5,none⟩) (Nat.le_succ _) _).setCell (p:=⟨w.heap.size+1,6,none⟩) (Nat.le_succ _) _
 · obtain rfl:m=1:=hm.symm
   clear hm
   go_upto_region 4 with fail
   go_cut [10] from 17 to 22 (fun v wx=>∃ g,v= .pointer (some ⟨g,0,none⟩)∧W1.heap.size≤g∧Row wx g 34 #[.int .i64 1,.string K,.string tb,.int .i64 (p:Int),.slice none 0 0,.slice none 0 0,.bool false]∧Below W1.heap.size W1 wx)
   case first=>
    refine wp_region_any (by kernel_rfl) ?_
    change wpAny _ _ _ _ _ _ _ (World.drew W1)
    refine wpAny_head 7 [17,18,19,20,21,22,10] 1 #[true,true,true,true,true,true,true,false] (fun j v W=>match j with
     | 0=>v= .int .i64 1
     | 1=>v= .int .i64 key
     | 2=>v= .int .i64 (b:Int)
     | 3=>v= .int .u8 (b:Int)
     | 4=>v= .agg #[.string tb,.int .i64 (p:Int)]
     | 5=>v= .agg #[.int .i64 1,.string K,.string tb,.int .i64 (p:Int),.slice none 0 0,.slice none 0 0,.bool false]
     | _=>∃ g,v= .pointer (some ⟨g,0,none⟩)∧W1.heap.size≤g∧Row W g 34 #[.int .i64 0,.string ⟨#[]⟩,.string ⟨#[]⟩,.int .i64 0,.slice none 0 0,.slice none 0 0,.bool false]) (by kernel_rfl) (by kernel_rfl) (by kernel_rfl) (by kernel_rfl) ?_ ?_ ?_
    · intro j hj v W W' h hb
      rcases j with _ | _ | _ | _ | _ | _ | j
      all_goals first
       | exact h
       | (obtain⟨g,h1,h2,h3⟩:=h;exact⟨g,h1,h2,h3.below hb h3.lt⟩)
    · refine HSteps.cons rfl (fun x W ρ hB jj jk jq jx jy=> ?_) (HSteps.cons rfl (fun x W ρ hB jj jk jq jx jy=> ?_) (HSteps.cons rfl (fun x W ρ hB jj jk jq jx jy=> ?_) (HSteps.cons rfl (fun x W ρ hB jj jk jq jx jy=> ?_) (HSteps.cons rfl (fun x W ρ hB jj jk jq jx jy=> ?_) (HSteps.cons rfl (fun x W ρ hB jj jk jq jx jy=> ?_) (HSteps.cons rfl (fun x W ρ hB jj jk jq jx jy=> ?_) (HSteps.nil (Nat.le_refl _))))))))
      · skip
        have e9:=jq 9 (by decide)
        change ρ (.tmp 9)= .int .i64 1 at e9
        clear jj jk jq
        refine Stepped.val ?_ rfl
        go_simp
      · skip
        have e1:=jq 1 (by decide)
        change ρ (.tmp 1)= .int .i64 key at e1
        clear jj jk jq
        refine Stepped.val ?_ rfl
        go_simp
      · skip
        have d1:=jj ⟨1,.data⟩ (by simp) rfl
        have e18:=jk 1 18 rfl
        rw [show x 1=_ from d1] at e18
        clear jj jk jq
        refine Stepped.call (f:=37) (args:=#[.int .i64 key,.int .i64 256]) ?_ ?_
        · go_simp
        · skip
          refine(HP.out _).mono ?_
          rintro e W' ⟨rfl,rfl⟩
          exact⟨_,rfl,Below.refl _ _,rfl⟩
      · skip
        have d2:=jj ⟨2,.data⟩ (by simp) rfl
        have e19:=jk 2 19 rfl
        rw [show x 2=_ from d2] at e19
        clear jj jk jq
        refine Stepped.val ?_ rfl
        go_simp
      · skip
        have e6:=jq 6 (by decide)
        change ρ (.tmp 6)= .pointer (some ⟨w.heap.size,0,none⟩) at e6
        have z0:=cell_below hB c0
        have z1:=cell_below hB c1
        clear jj jk jq
        refine Stepped.val ?_ rfl
        go_simp
      · skip
        have d0:=jj ⟨0,.data⟩ (by simp) rfl
        have e17:=jk 0 17 rfl
        rw [show x 0=_ from d0] at e17
        have d3:=jj ⟨3,.data⟩ (by simp) rfl
        have e20:=jk 3 20 rfl
        rw [show x 3=_ from d3] at e20
        have d4:=jj ⟨4,.data⟩ (by simp) rfl
        have e21:=jk 4 21 rfl
        rw [show x 4=_ from d4] at e21
        clear jj jk jq
        refine Stepped.call (f:=36) (args:=#[.int .i64 1,.int .u8 (b:Int),.agg #[.string tb,.int .i64 (p:Int)]]) ?_ ?_
        · go_simp
        · skip
          refine(HF.out _).mono ?_
          rintro e W' ⟨rfl,hbx⟩
          exact⟨_,rfl,hbx,rfl⟩
      · skip
        clear jj jk jq
        refine Stepped.grow (v:= .pointer (some ⟨W.heap.size,0,none⟩)) (w':=W.alloc (.cells #[.int .i64 0,.string ⟨#[]⟩,.string ⟨#[]⟩,.int .i64 0,.slice none 0 0,.slice none 0 0,.bool false] 34)) ?_ ((Below.refl _ _).alloc (Nat.le_refl _) _) ⟨_,rfl,hB.size,Row.new W _ _⟩
        go_simp
    · intro x W hB hR
      have d0:=hR 0 (by decide)
      have d1:=hR 1 (by decide)
      have d2:=hR 2 (by decide)
      have d3:=hR 3 (by decide)
      have d4:=hR 4 (by decide)
      have d5:=hR 5 (by decide)
      obtain⟨g,d6,hg,hrow⟩:=hR 6 (by decide)
      clear hR
      change x 0=_ at d0
      change x 1=_ at d1
      change x 2=_ at d2
      change x 3=_ at d3
      change x 4=_ at d4
      change x 5=_ at d5
      change x 6=_ at d6
      have z0:W.cell? ⟨g,0,none⟩=some (.int .i64 0):=hrow.cell 0
      have z1:W.cell? ⟨g,1,none⟩=some (.string ⟨#[]⟩):=hrow.cell 1
      have z2:W.cell? ⟨g,2,none⟩=some (.string ⟨#[]⟩):=hrow.cell 2
      have z3:W.cell? ⟨g,3,none⟩=some (.int .i64 0):=hrow.cell 3
      have z4:W.cell? ⟨g,4,none⟩=some (.slice none 0 0):=hrow.cell 4
      have z5:W.cell? ⟨g,5,none⟩=some (.slice none 0 0):=hrow.cell 5
      have z6:W.cell? ⟨g,6,none⟩=some (.bool false):=hrow.cell 6
      have f0:=hrow.frozen 0
      have f1:=hrow.frozen 1
      have f2:=hrow.frozen 2
      have f3:=hrow.frozen 3
      have f4:=hrow.frozen 4
      have f5:=hrow.frozen 5
      have f6:=hrow.frozen 6
      simp only [putAll,Act.put,d0,d1,d2,d3,d4,d5,d6]
      refine wpAny_ready (rs:=[7]) (by kernel_rfl) (by simp) ?_
      refine AllReady.cons rfl (fun K hK=> ?_) AllReady.nil
      go_simp
      refine hK _ _ ?_
      clear hK K
      refine wpAny_done (by kernel_rfl) ?_ _
      go_wp2
      go_meet
      exact⟨g,rfl,hg,(((((((hrow.store 0 _).store 1 _).store 2 _).store 3 _).store 4 _).store 5 _).store 6 _),(((((((below_drew hB).setCell (p:=⟨g,0,none⟩) hg _).setCell (p:=⟨g,1,none⟩) hg _).setCell (p:=⟨g,2,none⟩) hg _).setCell (p:=⟨g,3,none⟩) hg _).setCell (p:=⟨g,4,none⟩) hg _).setCell (p:=⟨g,5,none⟩) hg _).setCell (p:=⟨g,6,none⟩) hg _⟩
   case rest=>
    obtain⟨g,rfl,hg,hrow,hbx⟩:=hcut
    have q1:=Hq.out.below hbx Hq.out.lt
    have hb1:=Hb.out.trans (hbx.mono Hb.out.size)
    have hlt:w.heap.size+1<W1.heap.size:=Hq.out.lt
    have z0:wc.cell? ⟨g,0,none⟩=some (.int .i64 1):=hrow.cell 0
    have z1:wc.cell? ⟨g,1,none⟩=some (.string K):=hrow.cell 1
    have z2:wc.cell? ⟨g,2,none⟩=some (.string tb):=hrow.cell 2
    have z3:wc.cell? ⟨g,3,none⟩=some (.int .i64 (p:Int)):=hrow.cell 3
    have z4:wc.cell? ⟨g,4,none⟩=some (.slice none 0 0):=hrow.cell 4
    have z5:wc.cell? ⟨g,5,none⟩=some (.slice none 0 0):=hrow.cell 5
    have z6:wc.cell? ⟨g,6,none⟩=some (.bool false):=hrow.cell 6
    have e0:wc.cell? ⟨w.heap.size+1,0,none⟩=some (.int .i64 0):=q1.cell 0
    have f0:=q1.frozen 0
    have e1:wc.cell? ⟨w.heap.size+1,1,none⟩=some (.string ⟨#[]⟩):=q1.cell 1
    have f1:=q1.frozen 1
    have e2:wc.cell? ⟨w.heap.size+1,2,none⟩=some (.string ⟨#[]⟩):=q1.cell 2
    have f2:=q1.frozen 2
    have e3:wc.cell? ⟨w.heap.size+1,3,none⟩=some (.int .i64 0):=q1.cell 3
    have f3:=q1.frozen 3
    have e4:wc.cell? ⟨w.heap.size+1,4,none⟩=some (.slice none 0 0):=q1.cell 4
    have f4:=q1.frozen 4
    have e5:wc.cell? ⟨w.heap.size+1,5,none⟩=some (.slice none 0 0):=q1.cell 5
    have f5:=q1.frozen 5
    have e6:wc.cell? ⟨w.heap.size+1,6,none⟩=some (.bool false):=q1.cell 6
    have f6:=q1.frozen 6
    clear c0 c1 hbx HP HF hW1
    have Hrow:=Lib.hid hrow
    have Hq1:=Lib.hid q1
    have Hb1:=Lib.hid hb1
    clear hrow q1 hb1
    go_wp2
    go_loopw [11] (fun vi wr=>vi= .int .i64 0∧wr=wc) (fun _ _=>0)
    case atStart=>exact⟨rfl,rfl⟩
    case round=>
     obtain⟨rfl,rfl⟩:=hrel
     go_wp2
     refine bodyPost_ret (results_cell_row rfl _ _ (w.heap.size+1) 34 #[.int .i64 1,.string K,.string tb,.int .i64 (p:Int),.slice none 0 0,.slice none 0 0,.bool false] (0,0) _ rfl (((((((Hq1.out.store 0 _).store 1 _).store 2 _).store 3 _).store 4 _).store 5 _).store 6 _) Tryz.underlying34 rfl (by kernel_rfl)) rfl ⟨rfl,?_⟩
     exact((((((Hb1.out.setCell (p:=⟨w.heap.size+1,0,none⟩) (Nat.le_succ _) _).setCell (p:=⟨w.heap.size+1,1,none⟩) (Nat.le_succ _) _).setCell (p:=⟨w.heap.size+1,2,none⟩) (Nat.le_succ _) _).setCell (p:=⟨w.heap.size+1,3,none⟩) (Nat.le_succ _) _).setCell (p:=⟨w.heap.size+1,4,none⟩) (Nat.le_succ _) _).setCell (p:=⟨w.heap.size+1,5,none⟩) (Nat.le_succ _) _).setCell (p:=⟨w.heap.size+1,6,none⟩) (Nat.le_succ _) _
theorem ints_below {v:Value} {w W:World} (h:IntsIn v w) (hb:Below w.heap.size w W):IntsIn v W:=by
 rcases h with h | ⟨a,len,cap,Z,h0,h1,h2,h3⟩
 · exact .inl h
 · exact .inr ⟨a,len,cap,Z,h0,h1,h2,fun i hi=>⟨cell_below hb (h3 i hi).1,(h3 i hi).2⟩⟩
theorem StrIn.below {W W':World} {v:Value} {l:List ByteArray} (h:StrIn W v l) (hb:Below W.heap.size W W'):StrIn W' v l:=by
 obtain⟨ao,cap,hv,hl,hc⟩:=h
 refine⟨ao,cap,hv,hl,fun i s hs=> ?_⟩
 obtain⟨a,ha,h1⟩:=hc i s hs
 exact⟨a,ha,cell_below hb h1⟩
namespace Pln
theorem all_m [Sha.Words]:∀(l:List Pst) (o:Orc),(all o l).m=o.m∧(all o l).key=o.key
 | [],_=>⟨rfl,rfl⟩
 | p::l,o=>all_m l (one o p)
theorem ces_in [Sha.Words]:∀ {l:List Pst} {o:Orc},o.Good→Fits o l→∀(i:Nat) (x:Pst × ByteArray) (c:ByteArray),(prs o l)[i]? =some x→(ces o l)[i]? =some c→(x.2,x.1.tx,c)∈(all o l).d.cl
 | [],_,_,_,i,x,c,hx,_=>by simp [prs] at hx
 | p::l,o,hg,h,i,x,c,hx,hc=>by
   have hg2:=(one_good hg h.1).2.1
   rw [prs] at hx
   rw [ces] at hc
   cases i with
   | zero=>
     simp only [List.getElem?_cons_zero,Option.some.injEq] at hx hc
     subst hx
     subst hc
     exact(all_keeps hg2 h.2).2 _ (one_in hg h.1).2.1
   | succ i=>
     simp only [List.getElem?_cons_succ] at hx hc
     exact ces_in hg2 h.2 i x c hx hc
theorem one_boxed [Sha.Words] {o:Orc} {p:Pst} (hg:o.Good) (h:Fit2 o p) (hb:Boxed o):Boxed (one o p):=by
 intro hm c hc
 have hm2:o.m=1:=hm
 have s1:=Orc.ask_step hg p.q h.1.1.q h.1.2.1 h.1.2.2
 have s2:=Orc.put_step s1.1 (lb o p) p.tx s1.2.1 p.tx_size (by rw [s1.2.2.2.2.1];exact h.2.1) (by rw [s1.2.2.2.1];exact h.2.2)
 have hold:∀ c∈o.d.cl,c.2.2=Orc.box o.key c.1 c.2.1:=hb hm2
 show c.2.2=Orc.box o.key c.1 c.2.1
 unfold one at hc
 rw [← s1.2.2.2.2.1] at hold
 rcases s2.2.2.2.2.2 with ⟨h,_⟩ | ⟨h,_,hx⟩
 · rw [h] at hc
   exact hold c hc
 · rw [h] at hc
   rcases List.mem_append.1 hc with hc | hc
   · exact hold c hc
   · rw [List.mem_singleton] at hc
     subst hc
     exact hx hm2
theorem all_boxed [Sha.Words]:∀ {l:List Pst} {o:Orc},o.Good→Fits o l→Boxed o→Boxed (all o l)
 | [],_,_,_,h=>h
 | _::l,_,hg,h,hb=>all_boxed (l:=l) (one_good hg h.1).2.1 h.2 (one_boxed hg h.1 hb)
end Pln
theorem infoPost:(Tryz.prog.info? 27).map (fun i=>(i.zero,i.size,i.bytes))=some (some (.agg #[.string ⟨#[]⟩,.int .i64 0,.int .i64 0,.int .i64 0,.int .i64 0]),5,48):=by kernel_rfl
namespace Pln
def postX (l:List Pst):List Value:=l.flatMap Pst.cells
theorem postX_append (l k:List Pst):postX (l++k)=postX l++postX k:=by simp [postX]
theorem postX_at:∀ {l:List Pst} {i:Nat} {p:Pst} {j:Nat} {u:Value},l[i]? =some p→p.cells[j]? =some u→(postX l)[i*5+j]? =some u
 | [],_,_,_,_,h,_=>by simp at h
 | x::l,0,p,j,u,h,hu=>by
   simp only [List.getElem?_cons_zero,Option.some.injEq] at h
   subst h
   have hj:j<x.cells.length:=(List.getElem?_eq_some_iff.1 hu).1
   show(x.cells++postX l)[0*5+j]? =some u
   rw [Nat.zero_mul,Nat.zero_add,List.getElem?_append_left hj]
   exact hu
 | x::l,i+1,p,j,u,h,hu=>by
   simp only [List.getElem?_cons_succ] at h
   show(x.cells++postX l)[(i+1)*5+j]? =some u
   have h5:x.cells.length=5:=rfl
   rw [List.getElem?_append_right (by omega),h5,show(i+1)*5+j-5=i*5+j by omega]
   exact postX_at h hu
def PostRow (W:World) (B:Nat) (v:Value) (l:List Pst):Prop:=W.ownsRow B 27 5 v l.length (postX l)
theorem PostRow.at {W:World} {B:Nat} {v:Value} {l:List Pst} (h:PostRow W B v l):PostsAt W v l:=by
 rcases ownsRow_cases h (by decide) with ⟨rfl,h1,_⟩ | ⟨g,cap,rfl,_,_,hm,hc⟩
 · have:=List.eq_nil_of_length_eq_zero h1
   subst this
   exact⟨none,0,rfl,Nat.zero_le _,fun i p hp=>by simp at hp⟩
 · exact⟨_,cap,rfl,by omega,fun i p hp=>⟨g,0,rfl,fun j u hu=>by rw [Nat.zero_add];exact hc _ u (postX_at hp hu)⟩⟩
def postOf (Z:Nat→Nat→Int) (i:Nat):Pst:=⟨wordOf (Z i 0),(pickOf (Z i 1) 3).toNat,i,(pickOf (Z i 1) 3).toNat,(pickOf (Z i 2) 6).toNat⟩
def postsOf (Z:Nat→Nat→Int) (n:Nat):List Pst:=(List.range (min n 12)).map (postOf Z)
theorem postsOf_length (Z:Nat→Nat→Int) (n:Nat):(postsOf Z n).length=min n 12:=by simp [postsOf]
theorem postsOf_at {Z:Nat→Nat→Int} {n i:Nat} (h:i<min n 12):(postsOf Z n)[i]? =some (postOf Z i):=by
 unfold postsOf
 rw [List.getElem?_map,List.getElem?_range h]
 rfl
theorem wordOf_size (c:Int):(wordOf c).size≤9:=by
 obtain⟨k,hk,hk6⟩:∃ k:Nat,pickOf c 6=(k:Int)∧k<6:=pick_nat c 6 (by decide)
 unfold wordOf
 rw [hk]
 rcases k with _ | _ | _ | _ | _ | _ | k
 all_goals first | omega | decide
theorem postOf_good (Z:Nat→Nat→Int) {i:Nat} (h:i<12):(postOf Z i).Good:=by
 have h1:=pickOf_range (c:=Z i 1) (n:=3) (by decide)
 have h2:=pickOf_range (c:=Z i 2) (n:=6) (by decide)
 have h3:=wordOf_size (Z i 0)
 exact⟨by show(wordOf _).size≤20;omega,by show(pickOf (Z i 1) 3).toNat≤_;omega,by show i≤_;omega,by show(pickOf (Z i 1) 3).toNat≤_;omega,by show(pickOf (Z i 2) 6).toNat≤_;omega⟩
theorem postsOf_good (Z:Nat→Nat→Int) (n:Nat):∀ p∈postsOf Z n,p.Good:=by
 intro p hp
 obtain⟨i,hi,rfl⟩:=List.mem_map.1 hp
 rw [List.mem_range] at hi
 exact postOf_good Z (by omega)
theorem postsOf_ct {Z:Nat→Nat→Int} {n i:Nat} {p:Pst} (h:(postsOf Z n)[i]? =some p):p.ct=i:=by
 have hi:i<(postsOf Z n).length:=(List.getElem?_eq_some_iff.1 h).1
 rw [postsOf_length] at hi
 rw [postsOf_at hi] at h
 cases h
 rfl
def PosB (W0:World) (nb:Nat) (vv:Value) (n:Nat) (xs:List Value) (p:Pst) (b:Nat) (x:Nat→Value) (W:World):Prop:=
 Keep (fun k=>k<nb) W0 W∧(b=0→W.ownsRow nb 27 5 vv n xs)∧(1≤b→W.ownsRow nb 27 5 (x 28) (n+1) (xs++p.cells))∧W0.heap.size≤W.heap.size
theorem PosB.below {W0:World} {nb:Nat} {vv:Value} {n:Nat} {xs:List Value} {p:Pst} {b:Nat} {x y:Nat→Value} {W W':World} (h:PosB W0 nb vv n xs p b x W) (he:∀ s∈[28],y s=x s) (hb:Below W.heap.size W W'):PosB W0 nb vv n xs p b y W':=by
 obtain⟨h1,h2,h3,h4⟩:=h
 refine⟨h1.trans ((Keep.below hb).mono fun _ _ _=>trivial),fun e=>owns_below (h2 e) hb,fun e=> ?_,Nat.le_trans h4 hb.size⟩
 rw [he 28 (by simp)]
 exact owns_below (h3 e) hb
def PosR (vv:Value) (ad:Addr) (len cap i:Nat) (Z:Nat→Nat→Int) (p:Pst) (b j:Nat) (v:Value) (W:World):Prop:=match j with
 | 0=>v=vv
 | 1=>v= .slice (some ad) len cap
 | 2=>v= .int .i64 (i:Int)
 | 3=>v= .pointer (some (ad.add (i*3)))
 | 4=>v= .pointer (some ((ad.add (i*3)).add 0))
 | 5=>v= .int .i64 (Z i 0)
 | 6=>v= .string p.word
 | 7=>v= .slice (some ad) len cap
 | 8=>v= .int .i64 (i:Int)
 | 9=>v= .pointer (some (ad.add (i*3)))
 | 10=>v= .pointer (some ((ad.add (i*3)).add 1))
 | 11=>v= .int .i64 (Z i 1)
 | 12=>v= .int .i64 (p.ep:Int)
 | 13=>v= .int .i64 (i:Int)
 | 14=>v= .slice (some ad) len cap
 | 15=>v= .int .i64 (i:Int)
 | 16=>v= .pointer (some (ad.add (i*3)))
 | 17=>v= .pointer (some ((ad.add (i*3)).add 1))
 | 18=>v= .int .i64 (Z i 1)
 | 19=>v= .int .i64 (p.kind:Int)
 | 20=>v= .slice (some ad) len cap
 | 21=>v= .int .i64 (i:Int)
 | 22=>v= .pointer (some (ad.add (i*3)))
 | 23=>v= .pointer (some ((ad.add (i*3)).add 2))
 | 24=>v= .int .i64 (Z i 2)
 | 25=>v= .int .i64 (p.id:Int)
 | 26=>v= .agg #[.string p.word,.int .i64 (p.ep:Int),.int .i64 (i:Int),.int .i64 (p.kind:Int),.int .i64 (p.id:Int)]
 | 27=>∃ q,v= .slice (some ⟨q,0,none⟩) 1 1∧(b=0→∀ j u,p.cells[j]? =some u→W.cell? ⟨q,j,none⟩=some u)
 | _=>True
theorem PosR.below {vv:Value} {ad:Addr} {len cap i:Nat} {Z:Nat→Nat→Int} {p:Pst} {b:Nat} {v:Value} {W W':World} (hb:Below W.heap.size W W'):∀ j,PosR vv ad len cap i Z p b j v W→PosR vv ad len cap i Z p b j v W'
 | 0,h=>h
 | 1,h=>h
 | 2,h=>h
 | 3,h=>h
 | 4,h=>h
 | 5,h=>h
 | 6,h=>h
 | 7,h=>h
 | 8,h=>h
 | 9,h=>h
 | 10,h=>h
 | 11,h=>h
 | 12,h=>h
 | 13,h=>h
 | 14,h=>h
 | 15,h=>h
 | 16,h=>h
 | 17,h=>h
 | 18,h=>h
 | 19,h=>h
 | 20,h=>h
 | 21,h=>h
 | 22,h=>h
 | 23,h=>h
 | 24,h=>h
 | 25,h=>h
 | 26,h=>h
 | 27,⟨q,h1,h2⟩=>⟨q,h1,fun e j u hu=>cell_below hb (h2 e j u hu)⟩
 | _+28,_=>trivial
theorem pos_turn {W0:World} {nb:Nat} {vv:Value} {ad:Addr} {len cap i:Nat} {Z:Nat→Nat→Int} {n:Nat} {xs:List Value} {p:Pst} {x:Nat→Value} {W W':World} {v':Value}
 (hB:PosB W0 nb vv n xs p 0 x W) (hown:W'.ownsRow nb 27 5 v' (n+1) (xs++p.cells)) (hgr:W.grownBy W' vv.ownBlock):
 PosB W0 nb vv n xs p 1 (fun j=>if j=28 then v' else x j) W'∧PosR vv ad len cap i Z p 1 28 v' W'∧∀ j,j≠28→PosR vv ad len cap i Z p 0 j (x j) W→PosR vv ad len cap i Z p 1 j (x j) W':=by
 obtain⟨h1,h2,-,h4⟩:=hB
 have h2:=h2 rfl
 have hk:=keep_grown hgr
 refine⟨⟨h1.trans (hk.mono fun k hk2 _ e=>by have:=(h2.lt k e).1;omega),fun e=>absurd e (by decide),fun _=>hown,Nat.le_trans h4 hgr.size⟩,trivial,?_⟩
 intro j hj h
 match j,hj,h with
 | 0,_,h=>exact h
 | 1,_,h=>exact h
 | 2,_,h=>exact h
 | 3,_,h=>exact h
 | 4,_,h=>exact h
 | 5,_,h=>exact h
 | 6,_,h=>exact h
 | 7,_,h=>exact h
 | 8,_,h=>exact h
 | 9,_,h=>exact h
 | 10,_,h=>exact h
 | 11,_,h=>exact h
 | 12,_,h=>exact h
 | 13,_,h=>exact h
 | 14,_,h=>exact h
 | 15,_,h=>exact h
 | 16,_,h=>exact h
 | 17,_,h=>exact h
 | 18,_,h=>exact h
 | 19,_,h=>exact h
 | 20,_,h=>exact h
 | 21,_,h=>exact h
 | 22,_,h=>exact h
 | 23,_,h=>exact h
 | 24,_,h=>exact h
 | 25,_,h=>exact h
 | 26,_,h=>exact h
 | 27,_,⟨q,h1,_⟩=>exact⟨q,h1,fun e=>absurd e (by decide)⟩
 | 28,hj,_=>exact absurd rfl hj
 | _+29,_,_=>trivial
end Pln
theorem Posts_any (v:Value) (w:World) (hv:RowsIn 3 v w):
 Calls Tryz.prog 14 #[v] w fun e w'=>∃(u:Value) (Z:Nat→Nat→Int) (n:Nat),e= .returned u∧Pln.PostRow w' w.heap.size u (Pln.postsOf Z n)∧Below w.heap.size w w':=by
 obtain⟨h0,hh0⟩:∃ h0,w.heap.size=h0:=⟨_,rfl⟩
 obtain⟨ao,len,cap,Z,rfl,hlen,hcell⟩:∃(ao:Option Addr) (len cap:Nat) (Z:Nat→Nat→Int),v= .slice ao len cap∧len≤maxLen∧∀ i,i<len→∃ ad,ao=some ad∧∀ j,j<3→w.cell? ((ad.add (i*3)).add j)=some (.int .i64 (Z i j))∧ -9223372036854775808≤Z i j∧Z i j≤9223372036854775807:=by
  rcases hv with rfl | ⟨a,len,cap,Z,rfl,h1,h2,h3⟩
  · exact⟨none,0,0,fun _ _=>0,rfl,Nat.zero_le _,fun i hi=>by omega⟩
  · exact⟨_,len,cap,Z,rfl,by omega,fun i hi=>⟨a,rfl,h3 i hi⟩⟩
 have h64:(len:Int)≤9223372036854775807:=by unfold maxLen at hlen;omega
 obtain⟨i0,hi0,hz0,hz1,hz2⟩:=info_parts infoPost
 have HI:=Lib.hid (And.intro hi0 (And.intro hz0 (And.intro hz1 hz2)))
 have Hcell:=Lib.hid hcell
 have Hst:Hid (∃ i:Nat,i≤min len 12∧Value.int .i64 0= .int .i64 (i:Int)∧w.ownsRow h0 27 5 (.slice none 0 0) i (Pln.postX ((Pln.postsOf Z len).take i))∧Below w.heap.size w w):=Lib.hid ⟨0,Nat.zero_le _,rfl,by simpa [Pln.postX] using World.ownsRow_nil _ _ _ 5,Below.refl _ _⟩
 clear hv hcell hlen hi0 hz0 hz1 hz2
 go_enter Tryz.func14,Tryz.ntmps14
 go_wp2
 go_loopw [3,4] (fun vo vi wr=>∃ i:Nat,i≤min len 12∧vi= .int .i64 (i:Int)∧wr.ownsRow h0 27 5 vo i (Pln.postX ((Pln.postsOf Z len).take i))∧Below w.heap.size w wr) (fun _ vi _=>12-(intOf vi).toNat)
 case atStart=>exact Hst.out
 case round=>
  clear Hst
  obtain⟨i,hi,rfl,hown,hbw⟩:=hrel
  by_cases hlt:i<min len 12
  · obtain⟨ad,rfl,hz⟩:=Hcell.out i (by omega)
    have h1:(i:Int)<(len:Int):=by omega
    have h2:(i:Int)<12:=by omega
    have hp:=Pln.postsOf_at (Z:=Z) hlt
    obtain⟨p,hpe⟩:∃ p,Pln.postOf Z i=p:=⟨_,rfl⟩
    have e0:p.word=wordOf (Z i 0):=by rw [← hpe];rfl
    have e1:((p.ep:Nat):Int)=pickOf (Z i 1) 3:=by
     have:=pickOf_range (c:=Z i 1) (n:=3) (by decide)
     rw [← hpe]
     show(((pickOf (Z i 1) 3).toNat:Nat):Int)=_
     omega
    have e2:((p.kind:Nat):Int)=pickOf (Z i 1) 3:=by
     have:=pickOf_range (c:=Z i 1) (n:=3) (by decide)
     rw [← hpe]
     show(((pickOf (Z i 1) 3).toNat:Nat):Int)=_
     omega
    have e3:((p.id:Nat):Int)=pickOf (Z i 2) 6:=by
     have:=pickOf_range (c:=Z i 2) (n:=6) (by decide)
     rw [← hpe]
     show(((pickOf (Z i 2) 6).toNat:Nat):Int)=_
     omega
    have e4:p.ct=i:=by rw [← hpe];rfl
    rw [hpe] at hp
    have hW:∀ W,Calls Tryz.prog 39 #[.int .i64 (Z i 0)] W fun e w'=>e= .returned (.string p.word)∧Below W.heap.size W w':=fun W=>by
     rw [e0]
     exact Word_any (Z i 0) (hz 0 (by decide)).2 W
    have hP1:∀ W,Calls Tryz.prog 15 #[.int .i64 (Z i 1),.int .i64 3] W fun e w'=>e= .returned (.int .i64 (p.ep:Int))∧w'=W:=fun W=>by
     rw [e1]
     exact pick19_any (Z i 1) 3 (hz 1 (by decide)).2 (by decide) W
    have hek:((p.kind:Nat):Int)=((p.ep:Nat):Int):=by rw [e2,e1]
    have hP2:∀ W,Calls Tryz.prog 15 #[.int .i64 (Z i 2),.int .i64 6] W fun e w'=>e= .returned (.int .i64 (p.id:Int))∧w'=W:=fun W=>by
     rw [e3]
     exact pick19_any (Z i 2) 6 (hz 2 (by decide)).2 (by decide) W
    have hnx:(Pln.postsOf Z len).take (i+1)=(Pln.postsOf Z len).take i++[p]:=by
     rw [List.take_add_one,hp]
     rfl
    have hc0:=(hz 0 (by decide)).1
    have hc1:=(hz 1 (by decide)).1
    have hc2:=(hz 2 (by decide)).1
    rw [Addr.add_zero'] at hc0
    rw [Addr.add_succ'] at hc1 hc2
    have hct:((p.ct:Nat):Int)=(i:Int):=by rw [e4]
    obtain⟨va,vk,rfl⟩:=slice_of hown
    obtain⟨xs,hxs⟩:∃ xs,Pln.postX ((Pln.postsOf Z len).take i)=xs:=⟨_,rfl⟩
    rw [hxs] at hown
    have hnx2:Pln.postX ((Pln.postsOf Z len).take (i+1))=xs++p.cells:=by rw [hnx,Pln.postX_append,hxs];simp [Pln.postX]
    have hzr:h0≤wr.heap.size:=by have:=hbw.size;omega
    have hB0:∀ y,Pln.PosB wr h0 (.slice va i vk) i xs p 0 y wr.drew:=fun y=>⟨(Keep.refl _ wr).drew,fun _=>owns_below hown (Below.refl _ wr).drew,fun e=>absurd e (by decide),Nat.le_refl _⟩
    have HB0:=Lib.hid hB0
    have HW:=Lib.hid hW
    have HP1:=Lib.hid hP1
    have HP2:=Lib.hid hP2
    have Hbw:=Lib.hid hbw
    have Hnx:=Lib.hid hnx2
    have Hc0:=Lib.hid hc0
    have Hc1:=Lib.hid hc1
    have Hc2:=Lib.hid hc2
    have Hek:=Lib.hid hek
    have Hct:=Lib.hid hct
    have Hhz:=Lib.hid (And.intro (hz 0 (by decide)).2 (And.intro (hz 1 (by decide)).2 (hz 2 (by decide)).2))
    clear hB0 hW hP1 hP2 hbw hnx hnx2 hc0 hc1 hc2 hek hct hz hp hpe e0 e1 e2 e3 e4 hown hxs
    go_wp2
    obtain⟨hi0,hz0,hz1,hz2⟩:=HI.out
    refine wp_region_any (by kernel_rfl) ?_
    change wpAny _ _ _ _ _ _ _ (World.drew wr)
    refine wpAny_phases 29 [28] [15,16,17,18,19,20,21,22,23,24,25,26,27,28,29,30,31,32,33,34,35,36,37,38,39,40,41,42,43] 1 #[true,true,true,true,true,true,true,true,true,true,true,true,true,true,true,true,true,true,true,true,true,true,true,true,true,true,true,true,true,false] (Pln.PosB wr h0 (.slice va i vk) i xs p) (Pln.PosR (.slice va i vk) ad len cap i Z p) 45 (by kernel_rfl) (by kernel_rfl) (by kernel_rfl) (by kernel_rfl) (fun b j v w w' h hb=>Pln.PosR.below hb j h) HB0.out (fun b x y w w' h he hb=>h.below he hb) ?_ ?_ ?_
    · refine PSteps.free rfl (fun b y W ρ hB jj jk jq jx jy=> ?_) (PSteps.free rfl (fun b y W ρ hB jj jk jq jx jy=> ?_) (PSteps.free rfl (fun b y W ρ hB jj jk jq jx jy=> ?_) (PSteps.free rfl (fun b y W ρ hB jj jk jq jx jy=> ?_) (PSteps.free rfl (fun b y W ρ hB jj jk jq jx jy=> ?_) (PSteps.free rfl (fun b y W ρ hB jj jk jq jx jy=> ?_) (PSteps.free rfl (fun b y W ρ hB jj jk jq jx jy=> ?_) (PSteps.free rfl (fun b y W ρ hB jj jk jq jx jy=> ?_) (PSteps.free rfl (fun b y W ρ hB jj jk jq jx jy=> ?_) (PSteps.free rfl (fun b y W ρ hB jj jk jq jx jy=> ?_) (PSteps.free rfl (fun b y W ρ hB jj jk jq jx jy=> ?_) (PSteps.free rfl (fun b y W ρ hB jj jk jq jx jy=> ?_) (PSteps.free rfl (fun b y W ρ hB jj jk jq jx jy=> ?_) (PSteps.free rfl (fun b y W ρ hB jj jk jq jx jy=> ?_) (PSteps.free rfl (fun b y W ρ hB jj jk jq jx jy=> ?_) (PSteps.free rfl (fun b y W ρ hB jj jk jq jx jy=> ?_) (PSteps.free rfl (fun b y W ρ hB jj jk jq jx jy=> ?_) (PSteps.free rfl (fun b y W ρ hB jj jk jq jx jy=> ?_) (PSteps.free rfl (fun b y W ρ hB jj jk jq jx jy=> ?_) (PSteps.free rfl (fun b y W ρ hB jj jk jq jx jy=> ?_) (PSteps.free rfl (fun b y W ρ hB jj jk jq jx jy=> ?_) (PSteps.free rfl (fun b y W ρ hB jj jk jq jx jy=> ?_) (PSteps.free rfl (fun b y W ρ hB jj jk jq jx jy=> ?_) (PSteps.free rfl (fun b y W ρ hB jj jk jq jx jy=> ?_) (PSteps.free rfl (fun b y W ρ hB jj jk jq jx jy=> ?_) (PSteps.free rfl (fun b y W ρ hB jj jk jq jx jy=> ?_) (PSteps.free rfl (fun b y W ρ hB jj jk jq jx jy=> ?_) (PSteps.upto 0 28 rfl rfl (by kernel_rfl) (fun b y W ρ hb hB jj jk jq jx jy=> ?_) (PSteps.skip (by decide) (PSteps.nil (by decide))))))))))))))))))))))))))))))
      · have e3:ρ (.tmp 3)= .slice va i vk:=jq 3 (by decide)
        clear jj jk jq
        refine Stepped.val ?_ rfl
        go_simp
      · have e0:ρ (.tmp 0)= .slice (some ad) len cap:=jq 0 (by decide)
        clear jj jk jq
        refine Stepped.val ?_ rfl
        go_simp
      · have e4:ρ (.tmp 4)= .int .i64 (i:Int):=jq 4 (by decide)
        clear jj jk jq
        refine Stepped.val ?_ rfl
        go_simp
      · have e16:=(jk 1 16 rfl (by decide)).trans (jj ⟨1,.data⟩ (by simp) rfl)
        have e17:=(jk 2 17 rfl (by decide)).trans (jj ⟨2,.data⟩ (by simp) rfl)
        clear jj jk jq
        refine Stepped.val ?_ rfl
        go_simp
      · have e18:=(jk 3 18 rfl (by decide)).trans (jj ⟨3,.data⟩ (by simp) rfl)
        clear jj jk jq
        refine Stepped.val ?_ rfl
        go_simp
      · have e19:=(jk 4 19 rfl (by decide)).trans (jj ⟨4,.data⟩ (by simp) rfl)
        have c0:=cell_below Hbw.out Hc0.out
        have c0:W.cell? (ad.add (i*3))=some (.int .i64 (Z i 0)):=hB.1.cell (p:=(ad.add (i*3))) (show _<h0 from hh0 ▸ lt_of_cell Hc0.out) c0
        clear jj jk jq
        refine Stepped.val ?_ rfl
        go_simp
      · have e20:=(jk 5 20 rfl (by decide)).trans (jj ⟨5,.data⟩ (by simp) rfl)
        have hfw:=jy 39
        clear jj jk jq
        refine Stepped.call (f:=39) (args:=#[.int .i64 (Z i 0)]) ?_ ?_
        · go_simp
        · refine(HW.out _).mono ?_
          rintro e w3 ⟨rfl,hb3⟩
          exact⟨_,rfl,hb3,rfl⟩
      · have e0:ρ (.tmp 0)= .slice (some ad) len cap:=jq 0 (by decide)
        clear jj jk jq
        refine Stepped.val ?_ rfl
        go_simp
      · have e4:ρ (.tmp 4)= .int .i64 (i:Int):=jq 4 (by decide)
        clear jj jk jq
        refine Stepped.val ?_ rfl
        go_simp
      · have e22:=(jk 7 22 rfl (by decide)).trans (jj ⟨7,.data⟩ (by simp) rfl)
        have e23:=(jk 8 23 rfl (by decide)).trans (jj ⟨8,.data⟩ (by simp) rfl)
        clear jj jk jq
        refine Stepped.val ?_ rfl
        go_simp
      · have e24:=(jk 9 24 rfl (by decide)).trans (jj ⟨9,.data⟩ (by simp) rfl)
        clear jj jk jq
        refine Stepped.val ?_ rfl
        go_simp
      · have e25:=(jk 10 25 rfl (by decide)).trans (jj ⟨10,.data⟩ (by simp) rfl)
        have c1:=cell_below Hbw.out Hc1.out
        have c1:W.cell? ⟨(ad.add (i*3)).block,(ad.add (i*3)).off+1,none⟩=some (.int .i64 (Z i 1)):=hB.1.cell (p:=⟨(ad.add (i*3)).block,(ad.add (i*3)).off+1,none⟩) (show _<h0 from hh0 ▸ lt_of_cell Hc1.out) c1
        clear jj jk jq
        refine Stepped.val ?_ rfl
        go_simp
      · have e26:=(jk 11 26 rfl (by decide)).trans (jj ⟨11,.data⟩ (by simp) rfl)
        have hfw:=jy 15
        clear jj jk jq
        refine Stepped.call (f:=15) (args:=#[.int .i64 (Z i 1),.int .i64 3]) ?_ ?_
        · go_simp
        · refine(HP1.out _).mono ?_
          rintro e w3 ⟨rfl,rfl⟩
          exact⟨_,rfl,Below.refl _ _,rfl⟩
      · have e4:ρ (.tmp 4)= .int .i64 (i:Int):=jq 4 (by decide)
        clear jj jk jq
        refine Stepped.val ?_ rfl
        go_simp
      · have e0:ρ (.tmp 0)= .slice (some ad) len cap:=jq 0 (by decide)
        clear jj jk jq
        refine Stepped.val ?_ rfl
        go_simp
      · have e4:ρ (.tmp 4)= .int .i64 (i:Int):=jq 4 (by decide)
        clear jj jk jq
        refine Stepped.val ?_ rfl
        go_simp
      · have e29:=(jk 14 29 rfl (by decide)).trans (jj ⟨14,.data⟩ (by simp) rfl)
        have e30:=(jk 15 30 rfl (by decide)).trans (jj ⟨15,.data⟩ (by simp) rfl)
        clear jj jk jq
        refine Stepped.val ?_ rfl
        go_simp
      · have e31:=(jk 16 31 rfl (by decide)).trans (jj ⟨16,.data⟩ (by simp) rfl)
        clear jj jk jq
        refine Stepped.val ?_ rfl
        go_simp
      · have e32:=(jk 17 32 rfl (by decide)).trans (jj ⟨17,.data⟩ (by simp) rfl)
        have c1:=cell_below Hbw.out Hc1.out
        have c1:W.cell? ⟨(ad.add (i*3)).block,(ad.add (i*3)).off+1,none⟩=some (.int .i64 (Z i 1)):=hB.1.cell (p:=⟨(ad.add (i*3)).block,(ad.add (i*3)).off+1,none⟩) (show _<h0 from hh0 ▸ lt_of_cell Hc1.out) c1
        clear jj jk jq
        refine Stepped.val ?_ rfl
        go_simp
      · have e33:=(jk 18 33 rfl (by decide)).trans (jj ⟨18,.data⟩ (by simp) rfl)
        have hfw:=jy 15
        clear jj jk jq
        refine Stepped.call (f:=15) (args:=#[.int .i64 (Z i 1),.int .i64 3]) ?_ ?_
        · go_simp
        · refine(HP1.out _).mono ?_
          rintro e w3 ⟨rfl,rfl⟩
          exact⟨_,rfl,Below.refl _ _,by show Value.int .i64 (p.ep:Int)= .int .i64 (p.kind:Int);rw [Hek.out]⟩
      · have e0:ρ (.tmp 0)= .slice (some ad) len cap:=jq 0 (by decide)
        clear jj jk jq
        refine Stepped.val ?_ rfl
        go_simp
      · have e4:ρ (.tmp 4)= .int .i64 (i:Int):=jq 4 (by decide)
        clear jj jk jq
        refine Stepped.val ?_ rfl
        go_simp
      · have e35:=(jk 20 35 rfl (by decide)).trans (jj ⟨20,.data⟩ (by simp) rfl)
        have e36:=(jk 21 36 rfl (by decide)).trans (jj ⟨21,.data⟩ (by simp) rfl)
        clear jj jk jq
        refine Stepped.val ?_ rfl
        go_simp
      · have e37:=(jk 22 37 rfl (by decide)).trans (jj ⟨22,.data⟩ (by simp) rfl)
        clear jj jk jq
        refine Stepped.val ?_ rfl
        go_simp
      · have e38:=(jk 23 38 rfl (by decide)).trans (jj ⟨23,.data⟩ (by simp) rfl)
        have c2:=cell_below Hbw.out Hc2.out
        have c2:W.cell? ⟨(ad.add (i*3)).block,(ad.add (i*3)).off+2,none⟩=some (.int .i64 (Z i 2)):=hB.1.cell (p:=⟨(ad.add (i*3)).block,(ad.add (i*3)).off+2,none⟩) (show _<h0 from hh0 ▸ lt_of_cell Hc2.out) c2
        clear jj jk jq
        refine Stepped.val ?_ rfl
        go_simp
      · have e39:=(jk 24 39 rfl (by decide)).trans (jj ⟨24,.data⟩ (by simp) rfl)
        have hfw:=jy 15
        clear jj jk jq
        refine Stepped.call (f:=15) (args:=#[.int .i64 (Z i 2),.int .i64 6]) ?_ ?_
        · go_simp
        · refine(HP2.out _).mono ?_
          rintro e w3 ⟨rfl,rfl⟩
          exact⟨_,rfl,Below.refl _ _,rfl⟩
      · have e21:=(jk 6 21 rfl (by decide)).trans (jj ⟨6,.data⟩ (by simp) rfl)
        have e27:=(jk 12 27 rfl (by decide)).trans (jj ⟨12,.data⟩ (by simp) rfl)
        have e28:=(jk 13 28 rfl (by decide)).trans (jj ⟨13,.data⟩ (by simp) rfl)
        have e34:=(jk 19 34 rfl (by decide)).trans (jj ⟨19,.data⟩ (by simp) rfl)
        have e40:=(jk 25 40 rfl (by decide)).trans (jj ⟨25,.data⟩ (by simp) rfl)
        clear jj jk jq
        refine Stepped.val ?_ rfl
        go_simp
      · have e41:=(jk 26 41 rfl (by decide)).trans (jj ⟨26,.data⟩ (by simp) rfl)
        have hba:Below W.heap.size W (W.alloc (.cells #[.string p.word,.int .i64 (p.ep:Int),.int .i64 (i:Int),.int .i64 (p.kind:Int),.int .i64 (p.id:Int)] 27)):=(Below.refl _ _).alloc (Nat.le_refl _) _
        clear jj jk jq
        refine Stepped.grow (v:= .slice (some ⟨W.heap.size,0,none⟩) 1 1) (w':=W.alloc (.cells #[.string p.word,.int .i64 (p.ep:Int),.int .i64 (i:Int),.int .i64 (p.kind:Int),.int .i64 (p.id:Int)] 27)) ?_ hba ⟨W.heap.size,rfl,fun _ j u hu=> ?_⟩
        · clear hba
          go_simp
        · rw [(Row.new W 27 _).cell j]
          unfold Pln.Pst.cells at hu
          rw [Hct.out] at hu
          simpa using hu
    · intro k
      rcases k with _ | k
      · intro s hs oo ho y W ρ hB jj jk jq jx
        cases hs
        cases ho
        have d0:=jj ⟨0,.data⟩ (by simp) rfl
        obtain⟨q,hy27,hq⟩:=jj ⟨27,.data⟩ (by simp) rfl
        have hq:=hq rfl
        have el:=jk 0 15 rfl (by decide)
        have es:=jk 27 42 rfl (by decide)
        rw [show y 0=_ from d0] at el
        rw [show y 27=_ from hy27] at es
        obtain⟨v',W',hrun,hown,hgr,-,-⟩:=run_append_own_at (P:=Tryz.prog) (w:=W) h0 36 36 27 i0 _ 5 48 Tryz.underlying36 hi0 hz0 hz1 hz2 rfl (by decide) _ _ _ (hB.2.1 rfl) ⟨q,0,none⟩ 1 1 p.cells rfl (fun j u hu=>by rw [Addr.add_mid,Nat.zero_add];exact hq j u hu) (by simp [Pln.Pst.cells,Value.oneCell']) (by unfold maxLen;omega) (by omega) (Nat.le_trans hzr hB.2.2.2)
        refine⟨v',W',.inl ?_,Pln.pos_turn hB hown hgr⟩
        clear jj jk jq hB hown hgr hq
        exact append_run (.tmp 15) (.tmp 42) _ rfl el es hrun
      · intro s hs
        simp at hs
    · intro y W hB hR
      obtain⟨hk1,-,hown,hz⟩:=hB
      have hown:=hown (Nat.le_refl _)
      have hbx:Below w.heap.size w W:=((Keep.below (S:=fun k=>k<h0) (hh0 ▸ Hbw.out)).trans (hk1.mono fun k hk _=>hk)).toBelow fun k hk=>by omega
      obtain⟨ya,yk,hy28⟩:=slice_of hown
      rw [hy28] at hown
      clear hR
      simp only [putAll,Act.put,hy28]
      refine wpAny_ready (rs:=[29]) (by kernel_rfl) (by simp) ?_
      refine AllReady.cons rfl (fun K hK=> ?_) AllReady.nil
      go_simp
      refine hK _ _ ?_
      clear hK K
      refine wpAny_done (by kernel_rfl) ?_ _
      go_wp2
      go_roundw
      case rel=>exact⟨i+1,by omega,by simp,by rw [Hnx.out];exact hown,hbx⟩
      case measure=>simp [intOf];omega
  · obtain rfl:i=min len 12:=by omega
    have htk:(Pln.postsOf Z len).take (min len 12)=Pln.postsOf Z len:=List.take_of_length_le (by rw [Pln.postsOf_length];exact Nat.le_refl _)
    rw [htk] at hown
    obtain⟨va,vk,rfl⟩:=slice_of hown
    have hown:Pln.PostRow wr h0 (.slice va (min len 12) vk) (Pln.postsOf Z len):=by
     unfold Pln.PostRow
     rw [Pln.postsOf_length]
     exact hown
    have Hown:=Lib.hid hown
    have Hbw:=Lib.hid hbw
    clear hown hbw htk
    by_cases h1:(min len 12:Nat)<len
    · have h3:((min len 12:Nat):Int)<(len:Int):=by omega
      have h4:¬ ((min len 12:Nat):Int)<12:=by omega
      generalize ((min len 12:Nat):Int)=M at*
      go_wp2
      go_ret
      exact⟨_,rfl,⟨Z,len,Hown.out⟩,hh0 ▸ Hbw.out⟩
    · have h3:¬ ((min len 12:Nat):Int)<(len:Int):=by omega
      generalize ((min len 12:Nat):Int)=M at*
      go_wp2
      go_ret
      exact⟨_,rfl,⟨Z,len,Hown.out⟩,hh0 ▸ Hbw.out⟩
namespace Pln
def fo (m:Int) (key s:ByteArray):Orc:=⟨m,key,⟨s,0,[],[]⟩⟩
theorem fo_good {m:Int} {key s:ByteArray} (hm:m=1∨m=2) (hk:key.size=32) (hs:s.size=2000):(fo m key s).Good:=
 ⟨hm,hk,⟨by show s.size≤_;omega,Nat.zero_le _,Nat.zero_le _,Nat.zero_le _,by simp [fo],by simp [fo],List.nodup_nil,List.nodup_nil⟩⟩
theorem fo_room {m:Int} {key s:ByteArray} (hs:s.size=2000) {n:Nat} (hn:n≤30):Room (fo m key s) n:=⟨(show 0+n≤2000 by omega),(show 0+n≤2000 by omega),fun _=>by show 0+56*n≤s.size;omega⟩
theorem fo_boxed [Sha.Words] (m:Int) (key s:ByteArray):Boxed (fo m key s):=fun _ c hc=>by simp [fo] at hc
def kinds (l:List Pst):List (Nat × Nat):=l.map fun p=>(p.kind,p.id)
theorem kinds_length (l:List Pst):(kinds l).length=l.length:=by simp [kinds]
theorem kinds_at {l:List Pst} {i:Nat} {z:Nat × Nat} (h:(kinds l)[i]? =some z):∃ p,l[i]? =some p∧(p.kind,p.id)=z:=by
 unfold kinds at h
 rw [List.getElem?_map] at h
 cases hp:l[i]? with
 | none=>rw [hp] at h;cases h
 | some p=>rw [hp] at h;exact⟨p,rfl,Option.some.inj h⟩
theorem mem_at {α:Type} {l:List α} {i:Nat} {x:α} (h:l[i]? =some x):x∈l:=List.mem_of_getElem? h
theorem put_opens [Sha.Words] {o:Orc} {l:List Pst} (hg:o.Good) (hp:∀ p∈l,p.Good) (hf:Fits o l) (hb:Boxed o) (hcl:(all o l).d.clash=false) {i k id:Nat} (hi:(kinds l)[i]? =some (k,id)):
 k≤2∧id≤1073741824∧∃ lb c,((prs o l).map (·.2))[i]? =some lb∧(ces o l)[i]? =some c∧c.size≠0∧OpensTo (all o l) lb c (cellB k id) 0:=by
 obtain⟨p,hpi,hpz⟩:=kinds_at hi
 cases hpz
 have hlt:i<l.length:=(List.getElem?_eq_some_iff.1 hpi).1
 obtain⟨x,hx⟩:∃ x,(prs o l)[i]? =some x:=⟨_,List.getElem?_eq_getElem (by rw [prs_length];exact hlt)⟩
 obtain⟨c,hc⟩:∃ c,(ces o l)[i]? =some c:=⟨_,List.getElem?_eq_getElem (by rw [ces_length];exact hlt)⟩
 have hx1:x.1=p:=by
  have h:=congrArg (fun z=>z[i]?) (prs_fst o l)
  simp only [List.getElem?_map,hx,Option.map_some,hpi] at h
  exact Option.some.inj h
 have hcs:=ces_size hg hf c (mem_at hc)
 have hls:=prs_size hg hf x (mem_at hx)
 have jk:=ces_in hg hf i x c hx hc
 rw [hx1] at jk
 exact⟨(hp p (mem_at hpi)).kind,(hp p (mem_at hpi)).id,x.2,c,by rw [List.getElem?_map,hx];rfl,hc,by omega,opensTo_found (all_good hg hf) (all_boxed hg hf hb) hcl hls hcs jk⟩
end Pln
theorem fold_put [Sha.Words] {o:Orc} {l:List Pln.Pst} (hg:o.Good) (hp:∀ p∈l,p.Good) (hf:Pln.Fits o l) (hb:Pln.Boxed o) (hcl:(Pln.all o l).d.clash=false) (hl:l.length≤1000) {k:Nat} (hk:k≤l.length) (nv cv v1 v2:Value) (w:World) (hR:Sha.RoundIn w) (hN:NmAt w 0 nv (Pln.all o l).d.nm) (hC:ClAt w 0 cv (Pln.all o l).d.cl)
 (h1:StrIn w v1 (((Pln.prs o l).map (·.2)).take k)) (h2:StrIn w v2 ((Pln.ces o l).take k)):
 Calls Tryz.prog 27 #[(Pln.all o l).agg nv cv,v1,v2] w fun e w'=>(∃ v,e= .returned (.tuple #[v,.int .i64 0])∧IntsAt w' v (Pln.foldS ((Pln.kinds l).take k)))∧Below w.heap.size w w':=by
 have e1:(((Pln.prs o l).map (·.2)).take k).length=k:=by rw [List.length_take,List.length_map,Pln.prs_length];omega
 have e2:((Pln.ces o l).take k).length=k:=by rw [List.length_take,Pln.ces_length];omega
 have e3:((Pln.kinds l).take k).length=k:=by rw [List.length_take,Pln.kinds_length];omega
 refine(fold_any (Pln.all o l) (Pln.all_good hg hf) nv cv _ _ v1 v2 ((Pln.kinds l).take k) 0 w hR hN hC h1 h2 (by rw [e1,e2]) (by rw [e2];omega) (by rw [e2,e3];exact Nat.le_refl _) (fun i q id hi=> ?_) (fun h=>by rw [e2,e3] at h;omega)).mono ?_
 · rw [List.getElem?_take] at hi
   split at hi
   · rename_i hik
     obtain⟨a1,a2,lb,c,a3,a4,a5,a6⟩:=Pln.put_opens hg hp hf hb hcl hi
     exact⟨a1,a2,lb,c,by rw [List.getElem?_take,if_pos hik];exact a3,by rw [List.getElem?_take,if_pos hik];exact a4,a5,a6⟩
   · cases hi
 · rintro e w' ⟨⟨v,h | h⟩,hbl⟩
   · exact⟨⟨v,h.2.1,h.2.2⟩,hbl⟩
   · have:=h.1
     rw [e2,e3] at this
     omega
theorem fold_stop [Sha.Words] {o:Orc} {l:List Pln.Pst} (hg:o.Good) (hp:∀ p∈l,p.Good) (hf:Pln.Fits o l) (hb:Pln.Boxed o) (hcl:(Pln.all o l).d.clash=false) (hl:l.length≤1000) {k:Nat} (hk:k<l.length) (nv cv v1 v2:Value) (c:ByteArray) (res:Int) (w:World) (hR:Sha.RoundIn w) (hN:NmAt w 0 nv (Pln.all o l).d.nm) (hC:ClAt w 0 cv (Pln.all o l).d.cl)
 (h1:StrIn w v1 ((Pln.prs o l).map (·.2))) (h2:StrIn w v2 ((Pln.ces o l).set k c)) (hres:∀ lb,((Pln.prs o l).map (·.2))[k]? =some lb→(c.size=0∧res=30)∨(c.size≠0∧res≠0∧∃ t,Pln.OpensTo (Pln.all o l) lb c t res)):
 Calls Tryz.prog 27 #[(Pln.all o l).agg nv cv,v1,v2] w fun e w'=>e= .returned (.tuple #[.slice none 0 0,.int .i64 res])∧Below w.heap.size w w':=by
 have e1:((Pln.prs o l).map (·.2)).length=l.length:=by rw [List.length_map,Pln.prs_length]
 have e2:((Pln.ces o l).set k c).length=l.length:=by rw [List.length_set,Pln.ces_length]
 have e3:((Pln.kinds l).take k).length=k:=by rw [List.length_take,Pln.kinds_length];omega
 obtain⟨lb,hlb⟩:∃ lb,((Pln.prs o l).map (·.2))[k]? =some lb:=⟨_,List.getElem?_eq_getElem (by rw [e1];exact hk)⟩
 refine(fold_any (Pln.all o l) (Pln.all_good hg hf) nv cv _ _ v1 v2 ((Pln.kinds l).take k) res w hR hN hC h1 h2 (by rw [e1,e2]) (by rw [e2];omega) (by rw [e2,e3];omega) (fun i q id hi=> ?_) (fun _=> ?_)).mono ?_
 · rw [List.getElem?_take] at hi
   split at hi
   · rename_i hik
     obtain⟨a1,a2,lb,c',a3,a4,a5,a6⟩:=Pln.put_opens hg hp hf hb hcl hi
     exact⟨a1,a2,lb,c',a3,by rw [List.getElem?_set_ne (by omega)];exact a4,a5,a6⟩
   · cases hi
 · rw [e3]
   exact⟨lb,c,hlb,by rw [List.getElem?_set_self (by rw [Pln.ces_length];exact hk)],hres lb hlb⟩
 · rintro e w' ⟨⟨v,h | h⟩,hbl⟩
   · have:=h.1
     rw [e2,e3] at this
     omega
   · exact⟨h.2,hbl⟩
theorem rows_below {n:Nat} {v:Value} {w W:World} (h:RowsIn n v w) (hb:Below w.heap.size w W):RowsIn n v W:=by
 rcases h with h | ⟨a,len,cap,Z,h0,h1,h2,h3⟩
 · exact .inl h
 · exact .inr ⟨a,len,cap,Z,h0,h1,h2,fun i hi j hj=>⟨cell_below hb (h3 i hi j hj).1,(h3 i hi j hj).2⟩⟩
theorem StrAt.in {W:World} {B n c:Nat} {a:Option Addr} {l:List ByteArray} (h:StrAt W B (.slice a n c) l):(a=none∧n=0∧c=0∧l=[])∨∃ g,a=some ⟨g,0,none⟩∧B≤g∧g<W.heap.size∧n=l.length:=by
 rcases ownsRow_cases h (by decide) with ⟨h1,h2,_⟩ | ⟨g,cap,h1,_⟩
 · injection h1 with e1 e2 e3
   exact .inl ⟨e1,e2,e3,List.eq_nil_of_length_eq_zero h2⟩
 · injection h1 with e1 e2 e3
   subst e1
   exact .inr ⟨g,rfl,(h.lt g rfl).1,(h.lt g rfl).2,e2⟩
theorem StrAt.store {W:World} {B g n c:Nat} {l:List ByteArray} (h:StrAt W B (.slice (some ⟨g,0,none⟩) n c) l) {j:Nat} (hj:j<l.length) (x:ByteArray):
 (∃ old,W.cell? ⟨g,j,none⟩=some (.string old))∧W.frozen? ⟨g,j,none⟩=false∧StrAt (W.setCell ⟨g,j,none⟩ (.string x)) B (.slice (some ⟨g,0,none⟩) n c) (l.set j x):=by
 have hn:n=l.length:=by
  rcases ownsRow_cases h (by decide) with ⟨h1,_⟩ | ⟨_,_,h1,_⟩
  · cases h1
  · injection h1
 rcases h.2 with ⟨h1,_⟩ | ⟨g',cap,cur,h1,hb,hg,hnc,hcm,hsz,htk⟩
 · cases h1
 · injection h1 with e1 e2 e3
   injection e1 with e1
   injection e1 with e1
   subst e1
   subst e3
   have hr:Row W g 9 cur:=hg
   have hx:cur[j]? =some (.string l[j]):=by
    have h2:=congrArg (fun z=>z[j]?) htk
    simp only [List.getElem?_take,List.getElem?_map,Nat.mul_one] at h2
    rw [if_pos hj,List.getElem?_eq_getElem hj] at h2
    simpa using h2
   refine⟨⟨_,(hr.cell j).trans hx⟩,hr.frozen j,?_,.inr ⟨g,c,_,by rw [List.length_set,hn],hb,hr.store j (.string x),by rw [List.length_set];exact hnc,hcm,by simpa using hsz,?_⟩⟩
   · simp
   · rw [Array.toList_setIfInBounds,List.length_set,List.map_set,← htk,List.take_set]
theorem StrAt.cap {W:World} {B n c:Nat} {a:Option Addr} {l:List ByteArray} (h:StrAt W B (.slice a n c) l):n≤c:=by
 rcases h.2 with ⟨h1,_⟩ | ⟨_,_,_,h1,_,_,h2,_⟩
 · injection h1 with _ e2 e3
   omega
 · injection h1 with _ e2 e3
   omega
theorem owns_cap {W:World} {B s n c m:Nat} {e:TypeId} {a:Option Addr} {xs:List Value} (h:W.ownsRow B e s (.slice a n c) m xs):n≤c:=by
 rcases h.2 with ⟨h1,_⟩ | ⟨_,_,_,h1,_,_,h2,_⟩
 · injection h1 with _ e2 e3
   omega
 · injection h1 with _ e2 e3
   omega
namespace Pln
structure PutAll [Sha.Words] (O Q:Orc) (l:List Pst) (Ls Cs:List ByteArray):Prop where
 ln:Ls.length=l.length
 cn:Cs.length=l.length
 good:Q.Good
 put:∀(u:Value) (W:World),Sha.RoundIn W→PostsAt W u l→Calls Tryz.prog 20 #[.agg #[.int .i64 O.m,.string O.key,.string O.d.tb,.int .i64 0,.slice none 0 0,.slice none 0 0,.bool false],u] W fun e w'=>∃(lo:Option Addr) (lc:Nat) (co:Option Addr) (cc:Nat) (na:Option Addr) (nk:Nat) (oa:Option Addr) (ok:Nat),e= .returned (.tuple #[.agg #[.int .i64 1,.slice lo l.length lc,.slice co l.length cc],.agg #[.int .i64 Q.m,.string Q.key,.string Q.d.tb,.int .i64 (Q.d.pos:Int),.slice na Q.d.nm.length nk,.slice oa Q.d.cl.length ok,.bool Q.d.clash],.int .i64 0])∧StrAt w' W.heap.size (.slice lo l.length lc) Ls∧StrAt w' W.heap.size (.slice co l.length cc) Cs∧NmAt w' 0 (.slice na Q.d.nm.length nk) Q.d.nm∧ClAt w' 0 (.slice oa Q.d.cl.length ok) Q.d.cl∧Below W.heap.size W w'
 fold:Q.d.clash=false→∀(k:Nat) (nv cv v1 v2:Value) (W:World),k≤l.length→Sha.RoundIn W→NmAt W 0 nv Q.d.nm→ClAt W 0 cv Q.d.cl→StrIn W v1 (Ls.take k)→StrIn W v2 (Cs.take k)→Calls Tryz.prog 27 #[Q.agg nv cv,v1,v2] W fun e w'=>(∃ v,e= .returned (.tuple #[v,.int .i64 0])∧IntsAt w' v (foldS ((kinds l).take k)))∧Below W.heap.size W w'
 stop:Q.d.clash=false→∀(k:Nat) (nv cv v1 v2:Value) (c:ByteArray) (res:Int) (W:World),k<l.length→Sha.RoundIn W→NmAt W 0 nv Q.d.nm→ClAt W 0 cv Q.d.cl→StrIn W v1 Ls→StrIn W v2 (Cs.set k c)→(∀ lb,Ls[k]? =some lb→(c.size=0∧res=30)∨(c.size≠0∧res≠0∧∃ t,OpensTo Q lb c t res))→Calls Tryz.prog 27 #[Q.agg nv cv,v1,v2] W fun e w'=>e= .returned (.tuple #[.slice none 0 0,.int .i64 res])∧Below W.heap.size W w'
theorem put_all [Sha.Words] {m:Int} {key s:ByteArray} {l:List Pst} (hm:m=1∨m=2) (hk:key.size=32) (hs:s.size=2000) (hp:∀ p∈l,p.Good) (hn:l.length≤30):PutAll (fo m key s) (all (fo m key s) l) l ((prs (fo m key s) l).map (·.2)) (ces (fo m key s) l):=by
 have hg:=fo_good hm hk hs
 have hf:=fits_room hg hp (fo_room (m:=m) (key:=key) hs hn)
 have hb:=fo_boxed m key s
 have e1:((prs (fo m key s) l).map (·.2)).length=l.length:=by rw [List.length_map,prs_length]
 have e2:(ces (fo m key s) l).length=l.length:=ces_length _ _
 refine⟨e1,e2,all_good hg hf,fun u W hR hP=> ?_,fun hcl k nv cv v1 v2 W hkl hR hN hC h1 h2=>fold_put hg hp hf hb hcl (by omega) hkl nv cv v1 v2 W hR hN hC h1 h2,fun hcl k nv cv v1 v2 c res W hkl hR hN hC h1 h2 hres=>fold_stop hg hp hf hb hcl (by omega) hkl nv cv v1 v2 c res W hR hN hC h1 h2 hres⟩
 refine(put_any (fo m key s) hg (.slice none 0 0) (.slice none 0 0) l u (by omega) hf W hR (World.ownsRow_nil _ _ _ 2) (World.ownsRow_nil _ _ _ 3) hP).mono ?_
 rintro e w' ⟨lv,cv,nv',cv',rfl,hl,hc,hN,hC,hbw⟩
 obtain⟨lo,lc,rfl⟩:=slice_of hl
 obtain⟨co,cc,rfl⟩:=slice_of hc
 obtain⟨na,nk,rfl⟩:=slice_of hN
 obtain⟨oa,ok,rfl⟩:=slice_of hC
 rw [e1] at hl
 rw [e2] at hc
 exact⟨lo,lc,co,cc,na,nk,oa,ok,by rw [e1,e2];rfl,hl,hc,hN,hC,hbw⟩
end Pln
theorem oracleOpen_drawn_odd (o:Orc) (hg:o.Good) (hm:o.m=2) (nv cv:Value) (lb c:ByteArray) (hlb:lb.size=16) (hc:c.size≠40) (w:World) (hN:NmAt w 0 nv o.d.nm) (hC:ClAt w 0 cv o.d.cl):
 Calls Tryz.prog 49 #[.agg (Orc.vals 2 o.key o.d.tb o.d.pos nv cv o.d.clash),.string lb,.string c] w fun x w'=>x= .returned (.tuple #[.string ⟨#[]⟩,.int .i64 11])∧Below w.heap.size w w':=by
 have hRt:=fun w1 (hb:Below w.heap.size w w1)=>oracleRight_any 2 (.inr rfl) o.key hg.key o.d hg.d nv cv w1 (owns_below hN hb) (owns_below hC hb)
 obtain⟨na,nk,rfl⟩:=slice_of hN
 obtain⟨ca,ck,rfl⟩:=slice_of hC
 obtain⟨m,key,d⟩:=o
 dsimp only at*
 subst hm
 clear hg hN hC
 unfold Orc.vals at*
 have p0:Row (w.alloc (.cells #[.int .i64 2,.string key,.string d.tb,.int .i64 (d.pos:Int),.slice na d.nm.length nk,.slice ca d.cl.length ck,.bool d.clash] 34)) w.heap.size 34 #[.int .i64 2,.string key,.string d.tb,.int .i64 (d.pos:Int),.slice na d.nm.length nk,.slice ca d.cl.length ck,.bool d.clash]:=Row.new w _ _
 have hb0:Below w.heap.size w (w.alloc (.cells #[.int .i64 2,.string key,.string d.tb,.int .i64 (d.pos:Int),.slice na d.nm.length nk,.slice ca d.cl.length ck,.bool d.clash] 34)):=(Below.refl _ w).alloc (Nat.le_refl _) _
 have HRt:=Lib.hid hRt
 have s1:(lb.size:Int)=16:=by omega
 have s2:¬ (c.size:Int)=40:=by omega
 clear hRt hlb hc
 go_enter Tryz.func49,Tryz.ntmps49
 go_wp2_with fail
 refine(HRt.out _ hb0).mono ?_
 rintro x w2 ⟨rfl,hb2⟩
 have hb02:Below w.heap.size w w2:=hb0.trans (hb2.mono hb0.size)
 have p2:=p0.below hb2 p0.lt
 clear p0 hb0 hb2 HRt
 have Hb4:=Lib.hid hb02
 clear p2 hb02
 go_wp2
 go_ret2
 exact⟨rfl,Hb4.out⟩
namespace Pln
theorem one_cl [Sha.Words] {o:Orc} {p:Pst} (hg:o.Good) (h:Fit2 o p) {e:ByteArray × ByteArray × ByteArray} (he:e∈(one o p).d.cl):e∈o.d.cl∨e=(lb o p,p.tx,ce o p):=by
 have s1:=Orc.ask_step hg p.q h.1.1.q h.1.2.1 h.1.2.2
 have s2:=Orc.put_step s1.1 (lb o p) p.tx s1.2.1 p.tx_size (by rw [s1.2.2.2.2.1];exact h.2.1) (by rw [s1.2.2.2.1];exact h.2.2)
 unfold one at he
 rcases s2.2.2.2.2.2 with ⟨h,_⟩ | ⟨h,_⟩
 · rw [h,s1.2.2.2.2.1] at he
   exact .inl he
 · rw [h,s1.2.2.2.2.1] at he
   rcases List.mem_append.1 he with he | he
   · exact .inl he
   · exact .inr (List.mem_singleton.1 he)
theorem all_cl [Sha.Words]:∀ {l:List Pst} {o:Orc},o.Good→Fits o l→∀ {e:ByteArray × ByteArray × ByteArray},e∈(all o l).d.cl→e∈o.d.cl∨∃(i:Nat) (x:Pst × ByteArray) (c:ByteArray),(prs o l)[i]? =some x∧(ces o l)[i]? =some c∧e=(x.2,x.1.tx,c)
 | [],_,_,_,_,he=> .inl he
 | p::l,o,hg,h,e,he=>by
   rcases all_cl (l:=l) (one_good hg h.1).2.1 h.2 he with h1 | ⟨i,x,c,h1,h2,h3⟩
   · rcases one_cl hg h.1 h1 with h1 | h1
     · exact .inl h1
     · exact .inr ⟨0,(p,lb o p),ce o p,rfl,rfl,h1⟩
   · exact .inr ⟨i+1,x,c,h1,h2,h3⟩
theorem nodup_map_inj {α β:Type} {f:α→β} {l:List α} (h:(l.map f).Nodup) {x y:α} (hx:x∈l) (hy:y∈l) (he:f x=f y):x=y:=by
 induction l with
 | nil=>cases hx
 | cons z l ih=>
   rw [List.map_cons,List.nodup_cons] at h
   rcases List.mem_cons.1 hx with h1 | h1 <;> rcases List.mem_cons.1 hy with h2 | h2
   · rw [h1,h2]
   · exact absurd (by rw [← h1,he];exact List.mem_map_of_mem h2) h.1
   · exact absurd (by rw [← h2,← he];exact List.mem_map_of_mem h1) h.1
   · exact ih h.2 h1 h2
theorem tam_way [Sha.Words] {o:Orc} {l:List Pst} (hg:o.Good) (hm:o.m=2) (h0:o.d.cl=[]) (hp:∀ p∈l,p.Good) (hct:∀(i:Nat) (p:Pst),l[i]? =some p→p.ct=i) (hf:Fits o l) (hcl:(all o l).d.clash=false) {k:Nat} {L C c:ByteArray}
 (hL:((prs o l).map (·.2))[k]? =some L) (hC:(ces o l)[k]? =some C) (hne:c≠C):(all o l).wayO L c=(⟨#[]⟩,11):=by
 have hm2:(all o l).m=2:=by rw [(all_m l o).1];exact hm
 have jq:(all o l).d.outs.Nodup:=twice_false.1 (by unfold Idl.clash at hcl;exact(Bool.or_eq_false_iff.1 hcl).1)
 have hfst:∀ {i:Nat} {x:Pst × ByteArray},(prs o l)[i]? =some x→l[i]? =some x.1:=fun {i x} hx=>by
  have h:=congrArg (fun z=>z[i]?) (prs_fst o l)
  simp only [List.getElem?_map,hx,Option.map_some] at h
  exact h.symm
 rw [List.getElem?_map] at hL
 cases hxk:(prs o l)[k]? with
 | none=>rw [hxk] at hL;cases hL
 | some xk=>
   rw [hxk] at hL
   have hLk:xk.2=L:=Option.some.inj hL
   unfold Orc.wayO
   rw [if_neg (by omega)]
   unfold Idl.opens
   have hnone:(all o l).d.cl.find? (fun x=>decide (x.1=L∧x.2.2=c))=none:=by
    rw [List.find?_eq_none]
    intro e he hd
    have h2:=of_decide_eq_true hd
    rcases all_cl hg hf he with h3 | ⟨i,x,c',h3,h4,h5⟩
    · rw [h0] at h3
      cases h3
    · subst h5
      have hxx:(x.1.q,x.2)=(xk.1.q,xk.2):=nodup_map_inj (f:=fun n:ByteArray × ByteArray=>n.2) jq (prs_in hg hf x (mem_at h3)) (prs_in hg hf xk (mem_at hxk)) (by rw [hLk];exact h2.1)
      injection hxx with hq _
      have g1:=hp _ (mem_at (hfst h3))
      have g2:=hp _ (mem_at (hfst hxk))
      have hc:=(asked_inj g1.word g2.word g1.ep g1.ct g2.ep g2.ct hq).2.2
      rw [hct _ _ (hfst h3),hct _ _ (hfst hxk)] at hc
      subst hc
      rw [hC] at h4
      exact hne (h2.2.symm.trans (Option.some.inj h4).symm)
   rw [hnone]
theorem tam_opens [Sha.Words] {o:Orc} {l:List Pst} (hg:o.Good) (hm:o.m=2) (h0:o.d.cl=[]) (hp:∀ p∈l,p.Good) (hct:∀(i:Nat) (p:Pst),l[i]? =some p→p.ct=i) (hf:Fits o l) (hcl:(all o l).d.clash=false) {k:Nat} {L C c:ByteArray}
 (hL:((prs o l).map (·.2))[k]? =some L) (hC:(ces o l)[k]? =some C) (hne:c≠C):OpensTo (all o l) L c ⟨#[]⟩ 11:=by
 have hg2:=all_good hg hf
 have hLs:L.size=16:=by
  rw [List.getElem?_map] at hL
  cases hxk:(prs o l)[k]? with
  | none=>rw [hxk] at hL;cases hL
  | some xk=>
    rw [hxk] at hL
    rw [← Option.some.inj hL]
    exact prs_size hg hf xk (mem_at hxk)
 by_cases hs:c.size=40
 · have h:=opensTo_way hg2 hLs hs
   rw [tam_way hg hm h0 hp hct hf hcl hL hC hne] at h
   exact h
 · have hm2:(all o l).m=2:=by rw [(all_m l o).1];exact hm
   intro nv cv W _ hN hC2
   have h:=oracleOpen_drawn_odd (all o l) hg2 hm2 nv cv L c hLs hs W hN hC2
   unfold Orc.agg
   rw [hm2]
   exact h
end Pln
end Go.Proofs.YtpnbkfboneabaaaGreat
namespace Go.Proofs.YtpnbkfboneabaaaGreat.planTampers
open Go.ChangeShapes Go.WideShapes Go.ChangeAt Go.RowKit Go.WideMaps
theorem walk [Sha.Words] (draws raw:Value) (a:Int) (ha: -9223372036854775808≤a∧a≤9223372036854775807) (b:Int) (hb: -9223372036854775808≤b∧b≤9223372036854775807) (any:ByteArray) (_hz:any.size≤140737488351232) (w:World) (hR:Sha.RoundIn w) (hD:IntsIn draws w) (hQ:RowsIn 3 raw w):
 Calls Tryz.prog 7 #[draws,raw,.int .i64 a,.int .i64 b,.string any] w fun e w'=>e= .returned (.bool true)∧Below w.heap.size w w':=by
 have hAw:=awake19_any w hR
 have hDr:=fun W (hb:Below w.heap.size w W)=>Draws_any draws false W (ints_below hD hb)
 have hOr:=fun s (hs:s.size=2000) W=>Oracle_any false 0 (by decide) s 0 (by omega) (Nat.zero_le _) W
 have hPo:=fun W (hb:Below w.heap.size w W)=>Posts_any raw W (rows_below hQ hb)
 obtain⟨K,hK⟩:∃ K,keyB 0=K:=⟨_,rfl⟩
 have hKs:K.size=32:=by rw [← hK];exact keyB_size 0
 rw [hK] at hOr
 simp only [Bool.false_eq_true,if_false] at hOr
 obtain⟨da,dl,dc,rfl⟩:∃ da dl dc,draws= .slice da dl dc:=by
  obtain⟨a,b,c,h,_⟩:=ints_one hD
  exact⟨a,b,c,h⟩
 obtain⟨ra,rl,rc,rfl⟩:∃ da dl dc,raw= .slice da dl dc:=by
  rcases hQ with rfl | ⟨a,len,cap,Z,rfl,h1,h2,h3⟩
  · exact⟨_,_,_,rfl⟩
  · exact⟨_,_,_,rfl⟩
 unfold Orc.vals at hOr
 have HhAw:=Lib.hid hAw
 have HhDr:=Lib.hid hDr
 have HhOr:=Lib.hid hOr
 have HhPo:=Lib.hid hPo
 have HhR:=Lib.hid hR
 have HhKs:=Lib.hid hKs
 have Hha:=Lib.hid ha
 have Hhb:=Lib.hid hb
 clear hAw hDr hOr hPo hR hKs hK hD hQ ha hb
 go_enter Tryz.func7,Tryz.ntmps7
 go_wp2_with fail
 refine HhAw.out.mono ?_
 rintro e w1 ⟨rfl,hb1⟩
 go_wp2_with fail
 refine(HhDr.out _ hb1).mono ?_
 rintro e w2 ⟨s,hs,rfl,hb2⟩
 have hb02:=below_seq hb1 hb2
 clear hb1 hb2 HhAw HhDr
 go_wp2_with fail
 refine(HhOr.out s hs _).mono ?_
 rintro e w3 ⟨rfl,hb3⟩
 have hb03:=below_seq hb02 hb3
 obtain⟨g3,hg3⟩:∃ g3,w3.heap.size=g3:=⟨_,rfl⟩
 have p3:=Row.new w3 34 #[.int .i64 2,.string K,.string s,.int .i64 0,.slice none 0 0,.slice none 0 0,.bool false]
 rw [hg3] at p3
 have hb04:=below_seq hb03 ((Below.refl _ w3).alloc (Nat.le_refl _) (.cells #[.int .i64 2,.string K,.string s,.int .i64 0,.slice none 0 0,.slice none 0 0,.bool false] 34))
 have P3:=Lib.hid p3
 have Hb4:=Lib.hid hb04
 have Hs:=Lib.hid hs
 clear hb02 hb03 hb3 hb04 p3 hs HhOr
 go_wp2_with fail
 refine(HhPo.out _ Hb4.out).mono ?_
 rintro e w5 ⟨u,Z,n,rfl,hpr,hb5⟩
 have hb05:=below_seq Hb4.out hb5
 have hct:∀(i:Nat) (p:Pln.Pst),(Pln.postsOf Z n)[i]? =some p→p.ct=i:=fun i p h=>Pln.postsOf_ct h
 obtain⟨l,hl⟩:∃ l,Pln.postsOf Z n=l:=⟨_,rfl⟩
 have hlg:∀ p∈l,p.Good:=by rw [← hl];exact Pln.postsOf_good Z n
 have hln:l.length≤12:=by rw [← hl,Pln.postsOf_length];omega
 rw [hl] at hpr hct
 have hpa:=hpr.at
 unfold Pln.PostRow at hpr
 obtain⟨ua,uc,rfl⟩:=slice_of hpr
 have hlu:=owns_cap hpr
 have p5:=P3.out.below hb5 P3.out.lt
 have z0:=p5.cell 0
 change World.cell? _ _=some _ at z0
 have z1:=p5.cell 1
 change World.cell? _ _=some _ at z1
 have z2:=p5.cell 2
 change World.cell? _ _=some _ at z2
 have z3:=p5.cell 3
 change World.cell? _ _=some _ at z3
 have z4:=p5.cell 4
 change World.cell? _ _=some _ at z4
 have z5:=p5.cell 5
 change World.cell? _ _=some _ at z5
 have z6:=p5.cell 6
 change World.cell? _ _=some _ at z6
 have hPA:=Pln.put_all (m:=2) (.inr rfl) HhKs.out Hs.out hlg (by omega)
 have hg0:(Pln.fo 2 K s).Good:=Pln.fo_good (.inr rfl) HhKs.out Hs.out
 have hf0:=Pln.fits_room hg0 hlg (Pln.fo_room Hs.out (by omega))
 have hcs:=Pln.ces_size hg0 hf0
 have htm:=fun hcl k L C c=>Pln.tam_opens (k:=k) (L:=L) (C:=C) (c:=c) hg0 rfl rfl hlg hct hf0 hcl
 obtain⟨Q,hQe⟩:∃ Q,Pln.all (Pln.fo 2 K s) l=Q:=⟨_,rfl⟩
 obtain⟨Ls,hLe⟩:∃ Ls,(Pln.prs (Pln.fo 2 K s) l).map (·.2)=Ls:=⟨_,rfl⟩
 obtain⟨Cs,hCe⟩:∃ Cs,Pln.ces (Pln.fo 2 K s) l=Cs:=⟨_,rfl⟩
 rw [hQe,hLe,hCe] at hPA
 rw [hQe,hLe,hCe] at htm
 rw [hCe] at hcs
 have hput:=hPA.put (.slice ua l.length uc) w5 (HhR.out.below hb05) hpa
 dsimp only [Pln.fo] at hput
 have Hput:=Lib.hid hput
 have HPA:=Lib.hid hPA
 have Hpa:=Lib.hid hpa
 have Hb5:=Lib.hid hb05
 have Htm:=Lib.hid htm
 have Hcs:=Lib.hid hcs
 clear hput hPA hpa hb05 hb5 hpr hlg hl p5 P3 Hb4 Hs htm hcs hct hf0 hg0 hQe hLe hCe
 have hl64:(l.length:Int)≤12:=by omega
 go_wp2_with fail
 refine Hput.out.mono ?_
 rintro e w9 ⟨lo,lc,co,cc,na,nk,oa,ok,rfl,hsl,hsc,hN,hC,hb9⟩
 clear Hput z0 z1 z2 z3 z4 z5 z6
 obtain⟨gq,hgq⟩:∃ gq,w9.heap.size=gq:=⟨_,rfl⟩
 have hb9A:Below w9.heap.size w9 ((w9.alloc (.cells #[.int .i64 1,.slice lo l.length lc,.slice co l.length cc] 49)).alloc (.cells #[.int .i64 Q.m,.string Q.key,.string Q.d.tb,.int .i64 (Q.d.pos:Int),.slice na Q.d.nm.length nk,.slice oa Q.d.cl.length ok,.bool Q.d.clash] 34)):=((Below.refl _ w9).alloc (Nat.le_refl _) _).alloc (by simp) _
 have pq:=(Row.new w9 49 #[.int .i64 1,.slice lo l.length lc,.slice co l.length cc]).alloc (.cells #[.int .i64 Q.m,.string Q.key,.string Q.d.tb,.int .i64 (Q.d.pos:Int),.slice na Q.d.nm.length nk,.slice oa Q.d.cl.length ok,.bool Q.d.clash] 34)
 have po:=Row.new (w9.alloc (.cells #[.int .i64 1,.slice lo l.length lc,.slice co l.length cc] 49)) 34 #[.int .i64 Q.m,.string Q.key,.string Q.d.tb,.int .i64 (Q.d.pos:Int),.slice na Q.d.nm.length nk,.slice oa Q.d.cl.length ok,.bool Q.d.clash]
 rw [World.size_alloc] at po
 rw [hgq] at pq po
 have hbA:=below_seq Hb5.out (hb9.trans (hb9A.mono hb9.size))
 have hnl:=hsl.cap
 have hnc:=hsc.cap
 have hlA:=hsl.isIn.below hb9A
 have hcA:=hsc.isIn.below hb9A
 have hNA:=owns_below hN hb9A
 have hCA:=owns_below hC hb9A
 have hcin:=hsc.in
 obtain⟨wA,hwA⟩:∃ wA,((w9.alloc (.cells #[.int .i64 1,.slice lo l.length lc,.slice co l.length cc] 49)).alloc (.cells #[.int .i64 Q.m,.string Q.key,.string Q.d.tb,.int .i64 (Q.d.pos:Int),.slice na Q.d.nm.length nk,.slice oa Q.d.cl.length ok,.bool Q.d.clash] 34))=wA:=⟨_,rfl⟩
 have hzA:wA.heap.size=gq+2:=by rw [← hwA];simp [hgq]
 rw [hwA] at pq po hbA hlA hcA hNA hCA
 have Hpq:=Lib.hid pq
 have Hpo:=Lib.hid po
 have HhbA:=Lib.hid hbA
 have HhlA:=Lib.hid hlA
 have HhcA:=Lib.hid hcA
 have HhNA:=Lib.hid hNA
 have HhCA:=Lib.hid hCA
 have Hhcin:=Lib.hid hcin
 have HhwA:=Lib.hid hwA
 have HhzA:=Lib.hid hzA
 clear pq po hbA hlA hcA hNA hCA hb9A hsl hsc hN hC hb9 Hb5 Hpa hcin hwA hzA
 obtain⟨cl,hcl⟩:∃ cl,Q.d.clash=cl:=⟨_,rfl⟩
 rw [hcl] at Hpo HhwA
 have Hcl:=Lib.hid hcl
 rw [hcl]
 clear hcl
 have hbE:=HhbA.out
 rw [← HhwA.out] at hbE
 have HbE:=Lib.hid hbE
 clear hbE
 by_cases h0:l.length=0
 · have h0':(l.length:Int)=0:=by omega
   rw [h0] at HbE
   go_wp2
   go_ret
   exact⟨rfl,HbE.out⟩
 cases cl with
 | true=>
   have h0':¬ (l.length:Int)=0:=by omega
   go_wp2
   go_ret
   exact⟨rfl,HbE.out⟩
 | false=>
   have h0':¬ (l.length:Int)=0:=by omega
   have hP:=fun W=>pick19_any a l.length Hha.out (by omega) W
   have hP2:=fun W=>pick19_any b l.length Hhb.out (by omega) W
   obtain⟨k,ek,lk⟩:=pick_nat a l.length (by omega)
   change pickOf a (l.length:Int)=(k:Int) at ek
   rw [ek] at hP
   have hk:k<l.length:=by omega
   obtain⟨j1,ej,lj⟩:=pick_nat b l.length (by omega)
   change pickOf b (l.length:Int)=(j1:Int) at ej
   rw [ej] at hP2
   have hj:j1<l.length:=by omega
   have HP:=Lib.hid hP
   have HP2:=Lib.hid hP2
   clear hP hP2 ek lk ej lj HbE
   go_wp2_with fail
   refine(HP.out _).mono ?_
   rintro e wx ⟨rfl,rfl⟩
   rw [HhwA.out]
   clear HP
   obtain⟨gc,rfl⟩:∃ gc,co=some ⟨gc,0,none⟩:=by
    rcases Hhcin.out with ⟨_,h,_⟩ | ⟨g,h,_⟩
    · exact absurd h h0
    · exact⟨g,h⟩
   have hCn:=HPA.out.cn
   obtain⟨ck,hck⟩:∃ ck,Cs[k]? =some ck:=⟨_,List.getElem?_eq_getElem (by omega)⟩
   obtain⟨c1,hc1⟩:∃ c1,Cs[j1]? =some c1:=⟨_,List.getElem?_eq_getElem (by omega)⟩
   have hcks:=Hcs.out ck (Pln.mem_at hck)
   have hcell:∀ i x,Cs[i]? =some x→wA.cell? ⟨gc,i,none⟩=some (.string x):=by
    obtain⟨ao,cap,he,_,hc⟩:=HhcA.out
    injection he with e1 e2 e3
    subst e1
    intro i x hx
    obtain⟨a1,ha,h2⟩:=hc i x hx
    cases ha
    rw [Addr.add_mid,Nat.zero_add] at h2
    exact h2
   have hx1:=hcell _ _ hc1
   have hxk:=hcell _ _ hck
   have Hx1:=Lib.hid hx1
   have Hxk:=Lib.hid hxk
   have Hcell:=Lib.hid hcell
   have Hck:=Lib.hid hck
   clear hx1 hxk hc1 hcell hck
   have hck64:(ck.size:Int)=40:=by omega
   have hj':(j1:Int)<(l.length:Int):=by omega
   have hk':(k:Int)<(l.length:Int):=by omega
   have hsh:=fun W=>sl_hi ck 39 39 rfl (by omega) W
   obtain⟨sx,hsx⟩:∃ sx,ck.extract 0 39=sx:=⟨_,rfl⟩
   rw [hsx] at hsh
   have hsxz:sx.size≤9223372036854775806:=by rw [← hsx,ByteArray.size_extract];omega
   have Hsh:=Lib.hid hsh
   have Hsz:=Lib.hid hsxz
   clear hsh hsx hsxz
   go_upto_region 10 with fail
   go_cut [83,84,85] from 59 to 82 (fun v83 v84 v85 wx=>∃ g s4,v83= .slice (some ⟨g,0,none⟩) 4 4∧Row wx g 9 #[.string any,.string c1,.string ⟨#[]⟩,.string s4]∧v84= .int .i64 4∧v85= .int .i64 0∧Below wA.heap.size wA wx)
   case first=>
    refine wp_region_any (by kernel_rfl) ?_
    change wpAny _ _ _ _ _ _ _ (World.drew wA)
    refine wpAny_head 27 [59,60,61,62,63,64,65,66,67,68,69,70,71,72,73,74,75,76,77,78,79,80,81,82,83,84,85] 0 #[true,true,true,true,true,true,true,true,true,true,true,true,true,true,true,true,true,true,true,true,true,true,true,true,true,true,true] (fun j v W=>match j with
     | 0=>v= .string any
     | 1=>v= .pointer (some ⟨gq,2,none⟩)
     | 2=>v= .slice (some ⟨gc,0,none⟩) l.length cc
     | 3=>v= .int .i64 b
     | 4=>v= .slice ua l.length uc
     | 5=>v= .int .i64 (l.length:Int)
     | 6=>v= .int .i64 (j1:Int)
     | 7=>v= .pointer (some ⟨gc,j1,none⟩)
     | 8=>v= .string c1
     | 9=>v= .pointer (some ⟨gq,2,none⟩)
     | 10=>v= .slice (some ⟨gc,0,none⟩) l.length cc
     | 11=>v= .int .i64 (k:Int)
     | 12=>v= .pointer (some ⟨gc,k,none⟩)
     | 13=>v= .string ck
     | 14=>v= .pointer (some ⟨gq,2,none⟩)
     | 15=>v= .slice (some ⟨gc,0,none⟩) l.length cc
     | 16=>v= .int .i64 (k:Int)
     | 17=>v= .pointer (some ⟨gc,k,none⟩)
     | 18=>v= .string ck
     | 19=>v= .int .i64 40
     | 20=>v= .int .i64 39
     | 21=>v= .int .i64 39
     | 22=>v= .string sx
     | 23=>v= .string (sx++⟨#[63]⟩)
     | 24=>∃ g s4,v= .slice (some ⟨g,0,none⟩) 4 4∧Row W g 9 #[.string any,.string c1,.string ⟨#[]⟩,.string s4]
     | 25=>v= .int .i64 4
     | _=>v= .int .i64 0) (by kernel_rfl) (by kernel_rfl) (by kernel_rfl) (by kernel_rfl) ?_ ?_ ?_
    · intro j hj v W W' h hb
      rcases j with _ | _ | _ | _ | _ | _ | _ | _ | _ | _ | _ | _ | _ | _ | _ | _ | _ | _ | _ | _ | _ | _ | _ | _ | _ | _ | j
      all_goals first
       | exact h
       | (obtain⟨g,h1,h2,h3⟩:=h;exact⟨g,h1,h2,h3.below hb h3.lt⟩)
       | (obtain⟨g,s4,h1,h2⟩:=h;exact⟨g,s4,h1,h2.below hb h2.lt⟩)
    · refine HSteps.cons rfl (fun x W ρ hB jj jk jq jx jy=> ?_) (HSteps.cons rfl (fun x W ρ hB jj jk jq jx jy=> ?_) (HSteps.cons rfl (fun x W ρ hB jj jk jq jx jy=> ?_) (HSteps.cons rfl (fun x W ρ hB jj jk jq jx jy=> ?_) (HSteps.cons rfl (fun x W ρ hB jj jk jq jx jy=> ?_) (HSteps.cons rfl (fun x W ρ hB jj jk jq jx jy=> ?_) (HSteps.cons rfl (fun x W ρ hB jj jk jq jx jy=> ?_) (HSteps.cons rfl (fun x W ρ hB jj jk jq jx jy=> ?_) (HSteps.cons rfl (fun x W ρ hB jj jk jq jx jy=> ?_) (HSteps.cons rfl (fun x W ρ hB jj jk jq jx jy=> ?_) (HSteps.cons rfl (fun x W ρ hB jj jk jq jx jy=> ?_) (HSteps.cons rfl (fun x W ρ hB jj jk jq jx jy=> ?_) (HSteps.cons rfl (fun x W ρ hB jj jk jq jx jy=> ?_) (HSteps.cons rfl (fun x W ρ hB jj jk jq jx jy=> ?_) (HSteps.cons rfl (fun x W ρ hB jj jk jq jx jy=> ?_) (HSteps.cons rfl (fun x W ρ hB jj jk jq jx jy=> ?_) (HSteps.cons rfl (fun x W ρ hB jj jk jq jx jy=> ?_) (HSteps.cons rfl (fun x W ρ hB jj jk jq jx jy=> ?_) (HSteps.cons rfl (fun x W ρ hB jj jk jq jx jy=> ?_) (HSteps.cons rfl (fun x W ρ hB jj jk jq jx jy=> ?_) (HSteps.cons rfl (fun x W ρ hB jj jk jq jx jy=> ?_) (HSteps.cons rfl (fun x W ρ hB jj jk jq jx jy=> ?_) (HSteps.cons rfl (fun x W ρ hB jj jk jq jx jy=> ?_) (HSteps.cons rfl (fun x W ρ hB jj jk jq jx jy=> ?_) (HSteps.cons rfl (fun x W ρ hB jj jk jq jx jy=> ?_) (HSteps.cons rfl (fun x W ρ hB jj jk jq jx jy=> ?_) (HSteps.cons rfl (fun x W ρ hB jj jk jq jx jy=> ?_) (HSteps.nil (Nat.le_refl _))))))))))))))))))))))))))))
      · have e4:ρ (.tmp 4)= .string any:=jq 4 (by decide)
        clear jj jk jq
        refine Stepped.val ?_ rfl
        go_simp
      · have e14:ρ (.tmp 14)= .pointer (some ⟨gq,0,none⟩):=jq 14 (by decide)
        clear jj jk jq
        refine Stepped.val ?_ rfl
        go_simp
      · have e60:=(jk 1 60 rfl).trans (jj ⟨1,.data⟩ (by simp) rfl)
        have rQ:=Hpq.out.below (below_drew hB) Hpq.out.lt
        have u:=rQ.cell 2
        change World.cell? _ _=some _ at u
        clear rQ
        clear jj jk jq
        refine Stepped.val ?_ rfl
        go_simp
      · have e3:ρ (.tmp 3)= .int .i64 b:=jq 3 (by decide)
        clear jj jk jq
        refine Stepped.val ?_ rfl
        go_simp
      · have e13:ρ (.tmp 13)= .slice ua l.length uc:=jq 13 (by decide)
        clear jj jk jq
        refine Stepped.val ?_ rfl
        go_simp
      · have e63:=(jk 4 63 rfl).trans (jj ⟨4,.data⟩ (by simp) rfl)
        clear jj jk jq
        refine Stepped.val ?_ rfl
        go_simp
      · have e62:=(jk 3 62 rfl).trans (jj ⟨3,.data⟩ (by simp) rfl)
        have e64:=(jk 5 64 rfl).trans (jj ⟨5,.data⟩ (by simp) rfl)
        clear jj jk jq
        refine Stepped.call (f:=15) (args:=#[.int .i64 b,.int .i64 (l.length:Int)]) ?_ ?_
        · go_simp
        · refine(HP2.out W).mono ?_
          rintro e' W' ⟨rfl,rfl⟩
          exact⟨_,rfl,Below.refl _ _,rfl⟩
      · have e61:=(jk 2 61 rfl).trans (jj ⟨2,.data⟩ (by simp) rfl)
        have e65:=(jk 6 65 rfl).trans (jj ⟨6,.data⟩ (by simp) rfl)
        clear jj jk jq
        refine Stepped.val ?_ rfl
        go_simp
      · have e66:=(jk 7 66 rfl).trans (jj ⟨7,.data⟩ (by simp) rfl)
        have xl:=cell_below (below_drew hB) Hx1.out
        clear jj jk jq
        refine Stepped.val ?_ rfl
        go_simp
      · have e14:ρ (.tmp 14)= .pointer (some ⟨gq,0,none⟩):=jq 14 (by decide)
        clear jj jk jq
        refine Stepped.val ?_ rfl
        go_simp
      · have e68:=(jk 9 68 rfl).trans (jj ⟨9,.data⟩ (by simp) rfl)
        have rQ:=Hpq.out.below (below_drew hB) Hpq.out.lt
        have u:=rQ.cell 2
        change World.cell? _ _=some _ at u
        clear rQ
        clear jj jk jq
        refine Stepped.val ?_ rfl
        go_simp
      · have e17:ρ (.tmp 17)= .int .i64 (k:Int):=jq 17 (by decide)
        clear jj jk jq
        refine Stepped.val ?_ rfl
        go_simp
      · have e69:=(jk 10 69 rfl).trans (jj ⟨10,.data⟩ (by simp) rfl)
        have e70:=(jk 11 70 rfl).trans (jj ⟨11,.data⟩ (by simp) rfl)
        clear jj jk jq
        refine Stepped.val ?_ rfl
        go_simp
      · have e71:=(jk 12 71 rfl).trans (jj ⟨12,.data⟩ (by simp) rfl)
        have xl:=cell_below (below_drew hB) Hxk.out
        clear jj jk jq
        refine Stepped.val ?_ rfl
        go_simp
      · have e14:ρ (.tmp 14)= .pointer (some ⟨gq,0,none⟩):=jq 14 (by decide)
        clear jj jk jq
        refine Stepped.val ?_ rfl
        go_simp
      · have e73:=(jk 14 73 rfl).trans (jj ⟨14,.data⟩ (by simp) rfl)
        have rQ:=Hpq.out.below (below_drew hB) Hpq.out.lt
        have u:=rQ.cell 2
        change World.cell? _ _=some _ at u
        clear rQ
        clear jj jk jq
        refine Stepped.val ?_ rfl
        go_simp
      · have e17:ρ (.tmp 17)= .int .i64 (k:Int):=jq 17 (by decide)
        clear jj jk jq
        refine Stepped.val ?_ rfl
        go_simp
      · have e74:=(jk 15 74 rfl).trans (jj ⟨15,.data⟩ (by simp) rfl)
        have e75:=(jk 16 75 rfl).trans (jj ⟨16,.data⟩ (by simp) rfl)
        clear jj jk jq
        refine Stepped.val ?_ rfl
        go_simp
      · have e76:=(jk 17 76 rfl).trans (jj ⟨17,.data⟩ (by simp) rfl)
        have xl:=cell_below (below_drew hB) Hxk.out
        clear jj jk jq
        refine Stepped.val ?_ rfl
        go_simp
      · have e77:=(jk 18 77 rfl).trans (jj ⟨18,.data⟩ (by simp) rfl)
        clear jj jk jq
        refine Stepped.val ?_ rfl
        go_simp
      · have e78:=(jk 19 78 rfl).trans (jj ⟨19,.data⟩ (by simp) rfl)
        have hw39:IntKind.i64.wrap 39=39:=by decide
        clear jj jk jq
        refine Stepped.val ?_ rfl
        go_simp
      · have e79:=(jk 20 79 rfl).trans (jj ⟨20,.data⟩ (by simp) rfl)
        have hm39:max (39:Int) 0=39:=by decide
        clear jj jk jq
        refine Stepped.val ?_ rfl
        go_simp
      · have e72:=(jk 13 72 rfl).trans (jj ⟨13,.data⟩ (by simp) rfl)
        have e80:=(jk 21 80 rfl).trans (jj ⟨21,.data⟩ (by simp) rfl)
        have hsl:=Hsh.out W
        clear jj jk jq
        refine Stepped.val ?_ rfl
        go_simp
      · have e81:=(jk 22 81 rfl).trans (jj ⟨22,.data⟩ (by simp) rfl)
        have hsz:=Hsz.out
        clear jj jk jq
        refine Stepped.val ?_ rfl
        go_simp
      · have e59:=(jk 0 59 rfl).trans (jj ⟨0,.data⟩ (by simp) rfl)
        have e67:=(jk 8 67 rfl).trans (jj ⟨8,.data⟩ (by simp) rfl)
        have e82:=(jk 23 82 rfl).trans (jj ⟨23,.data⟩ (by simp) rfl)
        clear jj jk jq
        refine Stepped.grow (v:= .slice (some ⟨W.heap.size,0,none⟩) 4 4) (w':=W.alloc (.cells #[.string any,.string c1,.string ⟨#[]⟩,.string (sx++⟨#[63]⟩)] 9)) ?_ ((Below.refl _ _).alloc (Nat.le_refl _) _) ⟨_,_,rfl,Row.new W _ _⟩
        go_simp
      · have d24:=jj ⟨24,.data⟩ (by simp) rfl
        have e83:=jk 24 83 rfl
        obtain⟨g,s4,d24a,-⟩:=d24
        rw [d24a] at e83
        clear jj jk jq
        refine Stepped.val ?_ rfl
        go_simp
      · clear jj jk jq
        refine Stepped.val ?_ rfl
        go_simp
    · intro x W hB hR
      obtain⟨g,s4,d24,hrow⟩:=hR 24 (by decide)
      have d25:=hR 25 (by decide)
      have d26:=hR 26 (by decide)
      clear hR
      change x 25=_ at d25
      change x 26=_ at d26
      simp only [putAll,Act.put,d24,d25,d26]
      refine wpAny_done (by kernel_rfl) ?_ _
      go_simp
      rename_i hKK
      refine hKK _ _ ?_
      go_meet
      exact⟨g,s4,rfl,hrow,rfl,rfl,below_drew hB⟩
   case rest=>
    obtain⟨gs,s4,rfl,hrow,rfl,rfl,hbc⟩:=hcut
    have Hrow:=Lib.hid hrow
    have Hbc:=Lib.hid hbc
    clear hrow hbc HP2 Hx1 Hsh
    obtain⟨i0,hi0,hz0,hz1,hz2⟩:=info_parts infoStr
    have hcz:(Cs.map Value.string).length=l.length*1:=by rw [List.length_map,hCn,Nat.mul_one]
    have Hcz:=Lib.hid hcz
    have HI:=Lib.hid (And.intro hi0 (And.intro hz0 (And.intro hz1 hz2)))
    clear hcz hi0 hz0 hz1 hz2
    go_wp2
    go_loopw [85] (fun vi wr=>∃ i:Nat,i≤4∧vi= .int .i64 (i:Int)∧Below wc.heap.size wc wr) (fun vi _=>4-(intOf vi).toNat)
    case atStart=>exact⟨0,by omega,rfl,Below.refl _ _⟩
    case round=>
     obtain⟨i,hi,rfl,hbr⟩:=hrel
     by_cases hi4:i<4
     · have hi4':(i:Int)<4:=by omega
       obtain⟨c,hc⟩:∃ c:ByteArray,(#[.string any,.string c1,.string ⟨#[]⟩,.string s4]:Array Value)[i]? =some (.string c):=by
        rcases i with _ | _ | _ | _ | i
        · exact⟨_,rfl⟩
        · exact⟨_,rfl⟩
        · exact⟨_,rfl⟩
        · exact⟨_,rfl⟩
        · omega
       have xc:wr.cell? ⟨gs,i,none⟩=some (.string c):=((Hrow.out.below hbr Hrow.out.lt).cell i).trans hc
       have hbAr:Below wA.heap.size wA wr:=below_seq Hbc.out hbr
       have rQ:=Hpq.out.below hbAr Hpq.out.lt
       have uq2:=rQ.cell 2
       change World.cell? _ _=some _ at uq2
       have hcd:∀(j:Nat) (u:Value),(Cs.map Value.string)[j]? =some u→wr.cell? ((⟨gc,0,none⟩:Addr).add j)=some u:=by
        intro j u hu
        rw [List.getElem?_map] at hu
        cases hx:Cs[j]? with
        | none=>rw [hx] at hu;cases hu
        | some x=>
          rw [hx] at hu
          rw [Addr.add_mid,Nat.zero_add,cell_below hbAr (Hcell.out j x hx),← Option.some.inj hu]
       have Hcd:=Lib.hid hcd
       have Hbr:=Lib.hid hbr
       have HbAr:=Lib.hid hbAr
       clear hcd hbr hbAr rQ hc
       go_wp2_with (at_builtin;go_must (refine wpList_append_own _ rfl _ _ 43 rfl wr.heap.size 9 i0 _ 1 16 Tryz.underlying43 HI.out.1 HI.out.2.1 HI.out.2.2.1 HI.out.2.2.2 rfl (by decide) (.slice none 0 0) 0 [] rfl (World.ownsRow_nil _ _ _ 1) ⟨gc,0,none⟩ l.length cc (Cs.map Value.string) rfl Hcz.out Hcd.out (by intro u hu;obtain⟨x,-,rfl⟩:=List.mem_map.1 hu;rfl) ?b3 ?b4 (Nat.le_refl _) ?_))
       case b3=>unfold maxLen;omega
       case b4=>omega
       intro v' wf hown hgr _
       try rw [Nat.zero_add,List.nil_append] at hown
       have hbf:Below wr.heap.size wr wf:=keep_below (keep_grown hgr) (fun k _ e=>by cases e) (Nat.le_refl _)
       obtain⟨gd,kd,rfl,hgd,hgf⟩:=owns_row hown (by omega)
       have hsd:StrAt wf wr.heap.size (.slice (some ⟨gd,0,none⟩) l.length kd) Cs:=by unfold StrAt;rw [hCn];exact hown
       obtain⟨⟨old,hold⟩,hfz,hst⟩:=hsd.store (j:=k) (by rw [hCn];exact hk) c
       have hgA:gq+2≤gd:=by have:=HhzA.out;have:=HbAr.out.size;omega
       have hne1:gq≠gd:=by omega
       have hne2:gq+1≠gd:=by omega
       have hbAf:=below_seq HbAr.out hbf
       have hbS:Below wA.heap.size wA (wf.setCell ⟨gd,k,none⟩ (.string c)):=hbAf.setCell (p:=⟨gd,k,none⟩) (by rw [HhzA.out];exact hgA) _
       have hbC:Below wc.heap.size wc (wf.setCell ⟨gd,k,none⟩ (.string c)):=(below_seq Hbr.out hbf).setCell (p:=⟨gd,k,none⟩) (Nat.le_trans Hbr.out.size hgd) _
       have rQ:=Hpq.out.below hbAf Hpq.out.lt
       have rO:=Hpo.out.below hbAf Hpo.out.lt
       have uq1:=rQ.cell 1
       change World.cell? _ _=some _ at uq1
       have u0:=rO.cell 0
       change World.cell? _ _=some _ at u0
       have u1:=rO.cell 1
       change World.cell? _ _=some _ at u1
       have u2:=rO.cell 2
       change World.cell? _ _=some _ at u2
       have u3:=rO.cell 3
       change World.cell? _ _=some _ at u3
       have u4:=rO.cell 4
       change World.cell? _ _=some _ at u4
       have u5:=rO.cell 5
       change World.cell? _ _=some _ at u5
       have u6:=rO.cell 6
       change World.cell? _ _=some _ at u6
       obtain⟨wS,hwS⟩:∃ wS,wf.setCell ⟨gd,k,none⟩ (.string c)=wS:=⟨_,rfl⟩
       rw [hwS] at hst hbS hbC
       have HhwS:=Lib.hid hwS
       have HbS:=Lib.hid hbS
       have HbC:=Lib.hid hbC
       have Hst:=Lib.hid hst
       clear hwS hbS hbC hst hsd hown hgr rQ rO hbf hbAf hgd hgf uq2 Hcd
       have hNS:=owns_below HhNA.out HbS.out
       have hCS:=owns_below HhCA.out HbS.out
       have hLS:=HhlA.out.below HbS.out
       have hRS:=HhR.out.below (below_seq HhbA.out HbS.out)
       by_cases hcc:c=ck
       · subst hcc
         have hset:Cs.set k c=Cs:=by
          apply List.ext_getElem?
          intro t
          by_cases ht:k=t
          · subst ht
            rw [List.getElem?_set_self (by omega),Hck.out]
          · rw [List.getElem?_set_ne ht]
         have hst:=Hst.out
         rw [hset] at hst
         have hkk:(Pln.kinds l).take l.length=Pln.kinds l:=by rw [← Pln.kinds_length l,List.take_length]
         have hlk:Ls.take l.length=Ls:=by rw [← HPA.out.ln,List.take_length]
         have hck2:Cs.take l.length=Cs:=by rw [← hCn,List.take_length]
         have hfo:=HPA.out.fold Hcl.out l.length _ _ (.slice lo l.length lc) (.slice (some ⟨gd,0,none⟩) l.length kd) wS (Nat.le_refl _) hRS hNS hCS (by rw [hlk];exact hLS) (by rw [hck2];exact hst.isIn)
         rw [hkk] at hfo
         unfold Orc.agg Orc.vals at hfo
         rw [Hcl.out] at hfo
         have Hfo:=Lib.hid hfo
         clear hfo hst hNS hCS hLS hRS hset hkk hlk hck2
         go_wp2_with fail
         rw [HhwS.out]
         refine Hfo.out.mono ?_
         rintro e wg ⟨⟨v,rfl,hv⟩,hbg⟩
         have hbSg:=below_seq HbS.out hbg
         have rQ2:=Hpq.out.below hbSg Hpq.out.lt
         have uq2:=rQ2.cell 2
         change World.cell? _ _=some _ at uq2
         have xk:=cell_below hbSg Hxk.out
         have hbGc:=below_seq HbC.out hbg
         have HbGc:=Lib.hid hbGc
         clear rQ2 hbSg hbg hbGc hv
         go_wp2
         go_roundw
         case rel=>exact⟨i+1,by omega,by simp,HbGc.out⟩
         case measure=>simp [intOf];omega
       · have hst:=Hst.out
         obtain⟨res,hres,hr2⟩:∃ res:Int,(∀ lb,Ls[k]? =some lb→(c.size=0∧res=30)∨(c.size≠0∧res≠0∧∃ t,Pln.OpensTo Q lb c t res))∧((c.size=0∧res=30)∨(c.size≠0∧res=11)):=by
          by_cases hs0:c.size=0
          · exact⟨30,fun _ _=> .inl ⟨hs0,rfl⟩,.inl ⟨hs0,rfl⟩⟩
          · exact⟨11,fun lb hlb=> .inr ⟨hs0,by decide,_,Htm.out Hcl.out k lb ck c hlb Hck.out hcc⟩,.inr ⟨hs0,rfl⟩⟩
         have hfo:=HPA.out.stop Hcl.out k _ _ (.slice lo l.length lc) (.slice (some ⟨gd,0,none⟩) l.length kd) c res wS hk hRS hNS hCS hLS hst.isIn hres
         unfold Orc.agg Orc.vals at hfo
         rw [Hcl.out] at hfo
         have Hfo:=Lib.hid hfo
         clear hfo hst hNS hCS hLS hRS hres
         have hcne:(c.toList == ck.toList)=false:=by rw [texts_beq,decide_eq_false hcc]
         go_wp2_with fail
         rw [HhwS.out]
         refine Hfo.out.mono ?_
         rintro e wg ⟨rfl,hbg⟩
         have hbSg:=below_seq HbS.out hbg
         have rQ2:=Hpq.out.below hbSg Hpq.out.lt
         have uq2:=rQ2.cell 2
         change World.cell? _ _=some _ at uq2
         have xk:=cell_below hbSg Hxk.out
         have hbGc:=below_seq HbC.out hbg
         have HbGc:=Lib.hid hbGc
         clear rQ2 hbSg hbg hbGc
         rcases hr2 with ⟨hs0,rfl⟩ | ⟨hs0,rfl⟩
         · have hce:c.toList.isEmpty=true:=by rw [empty_text,decide_eq_true hs0]
           go_wp2
           go_roundw
           case rel=>exact⟨i+1,by omega,by simp,HbGc.out⟩
           case measure=>simp [intOf];omega
         · have hce:c.toList.isEmpty=false:=by rw [empty_text,decide_eq_false hs0]
           go_wp2
           go_roundw
           case rel=>exact⟨i+1,by omega,by simp,HbGc.out⟩
           case measure=>simp [intOf];omega
     · obtain rfl:i=4:=by omega
       have hbz:=below_seq HhbA.out (below_seq Hbc.out hbr)
       have Hbz:=Lib.hid hbz
       clear hbz hbr
       go_wp2
       go_ret
       exact⟨rfl,Hbz.out⟩
theorem own:ownKnob Tryz.prog.godebug=none:=by kernel_rfl
theorem lay:laidOutB Tryz.prog=true:=by kernel_rfl
theorem lifted (os:Os) (started:os.Started) (H:Type) (enc:TypeId × Value→H):
 ReturnsInHanded {} Tryz.checked os 7 .any (Rows.planTampersSpec.pre6 enc Tryz.prog Tryz.f7 Rows.planTampersRow.domain false) (Rows.planTampersSpec.post enc Tryz.prog Tryz.f7 false true false false):=by
 refine returnsInHanded_of_change_shaped (C:=Tryz.checked) own started (by kernel_rfl) Tryz.func7
  (ChangeSpec.witness6 (enc:=enc) (C:=Tryz.checked) false ⟨#[],#[.slice none 0 0,.slice none 0 0,.int .i64 0,.int .i64 0,.string ⟨#[]⟩],[]⟩ 8 (by kernel_rfl) (by kernel_rfl) (by kernel_rfl) (by kernel_rfl)) ?_
 intro W base args ds gs before hval0 hW hcnd hsz0 hsh _
 have hval:∀(j:Nat) t v,Tryz.f7.params[j]? =some t→args[j]? =some v→Value.okWide Tryz.prog W .any base t v:=hval0
 have hsz:(DataW.weightsEach Tryz.prog (Tryz.f7.params.toList++Rows.planTampersSpec.plain.varTypes Tryz.prog) (ds++gs)).all (· ≤reachBytes)=true:=hsz0
 have hW':=hW
 obtain⟨p,q,hA0,hV,rfl,hfz,hnd⟩:=hW
 have hA:DataW.TrodAll enc Tryz.prog W 0 (fun _=>true) true Tryz.f7.params.toList args.toList ds p:=hA0
 rw [Tryz.params7] at hA hval hsz
 obtain⟨v0,vs0,d0,ds0,p0,q0,hargs,rfl,rfl,h0,r0⟩:=trodAll_cons hA
 obtain⟨v1,vs1,d1,ds1,p1,q1,rfl,rfl,rfl,h1,r1⟩:=trodAll_cons r0
 obtain⟨v2,vs2,d2,ds2,p2,q2,rfl,rfl,rfl,h2,r2⟩:=trodAll_cons r1
 obtain⟨v3,vs3,d3,ds3,p3,q3,rfl,rfl,rfl,h3,r3⟩:=trodAll_cons r2
 obtain⟨v4,vs4,d4,ds4,p4,q4,rfl,rfl,rfl,h4,r4⟩:=trodAll_cons r3
 obtain⟨rfl,rfl,rfl⟩:=trodAll_nil r4
 obtain rfl:args=#[v0,v1,v2,v3,v4]:=by cases args;simp_all
 obtain⟨rfl,rfl⟩:=trodVars_none hV
 have k0:=ints_open Tryz.underlying60 Tryz.underlying3 (by kernel_rfl) (hval 0 60 v0 rfl rfl) h0
 have k1:=rows_open Tryz.underlying25 Tryz.underlying88 Tryz.underlying3 (by kernel_rfl) (by kernel_rfl) (hval 1 25 v1 rfl rfl) h1
 obtain⟨a2,rfl,rfl,rfl,w2⟩:=open_int Tryz.underlying3 (hval 2 3 v2 rfl rfl) h2
 obtain⟨a3,rfl,rfl,rfl,w3⟩:=open_int Tryz.underlying3 (hval 3 3 v3 rfl rfl) h3
 obtain⟨a4,rfl,rfl,rfl,w4⟩:=ChangeMaps.open_string Tryz.underlying9 (hval 4 9 v4 rfl rfl) h4
 have z4:a4.size≤140737488351232:=sized_string hsz (j:=4) rfl rfl
 obtain⟨kw,hkw⟩:=Sha.words_of hsh
 letI:Sha.Words:=⟨kw⟩
 have hRI:Sha.RoundIn W:=hkw
 refine(walk v0 v1 a2 (bounds_i64 w2) a3 (bounds_i64 w3) a4 z4 W hRI k0 k1).mono fun e W' ⟨he,hg⟩=> ?_
 subst he
 have hts:∀ t∈Tryz.f7.params.toList,Tryz.prog.readableRec t=true∧t<Tryz.prog.types.size:=by
  rw [Tryz.params7]
  intro t ht
  simp only [List.mem_cons,List.not_mem_nil,or_false] at ht
  rcases ht with rfl | rfl | rfl | rfl | rfl <;> exact⟨by kernel_rfl,of_decide_eq_true (by kernel_rfl)⟩
 exact⟨_,rfl,post_true lay hts (by kernel_rfl) Tryz.underlying4 rfl rfl hW' hg⟩
end Go.Proofs.YtpnbkfboneabaaaGreat.planTampers
