import Derived.Test.YtpnbkfboneabaaaGreatSeaGK
set_option maxRecDepth 100000
set_option maxHeartbeats 4000000
namespace Go.Proofs.YtpnbkfboneabaaaGreat
open Go.RowKit
theorem Open_any [Sha.Words] (key nonce along box:ByteArray) (hk:key.size=32) (hn:nonce.size=16) (hw:along.size≤4096) (hb:16≤box.size) (hb2:box.size≤65552) (w:World) (hR:Sha.RoundIn w):
 Calls Tryz.prog 202 #[.string key,.string nonce,.string along,.string box] w fun e w'=>
  (Seal.tag (Seal.k2 key) nonce along (box.extract 0 (box.size-16))=box.extract (box.size-16) box.size∧e= .returned (.tuple #[.string (Seal.mix (Seal.k1 key) nonce (box.extract 0 (box.size-16))),.int .i64 0])∨
   Seal.tag (Seal.k2 key) nonce along (box.extract 0 (box.size-16))≠box.extract (box.size-16) box.size∧e= .returned (.tuple #[.string ⟨#[]⟩,.int .i64 11]))∧Keep (fun k=>k<w.heap.size) w w':=by
 obtain⟨p0,q0,hk0,hz0⟩:=Seal.vars w 9 39
 have h0:=hR.pos
 have HRd:=Lib.hid (hR.keep hk0 trivial)
 have HN:=Lib.hid (newSealer_any key nonce along hk hn hw _ HRd.out)
 have hnI:(box.size:Int)-16=((box.size-16:Nat):Int):=by omega
 have hxs:(box.extract 0 (box.size-16)).size=box.size-16:=by rw [ByteArray.size_extract];omega
 have hys:(box.extract (box.size-16) box.size).size=16:=by rw [ByteArray.size_extract];omega
 have hs1:=fun W=>sl_hi box ((box.size-16:Nat):Int) (box.size-16) rfl (by omega) W
 have hs2:=fun W=>sl_lo box ((box.size-16:Nat):Int) (box.size-16) rfl (by omega) W
 generalize hX:box.extract 0 (box.size-16)=X at*
 generalize hY:box.extract (box.size-16) box.size=Y at*
 have hM:=fun g w hr=>mixed_any g (Seal.k1 key) (Seal.k2 key) nonce along X (Seal.k1_size key) hn (by omega) w hr
 have hT:=fun g w hR hr=>tagged_any g (Seal.k1 key) (Seal.k2 key) nonce along X (by rw [Seal.k2_size];decide) (by omega) hw (by omega) w hR hr
 have hts:=Seal.tag_size (Seal.k2 key) nonce along X
 generalize Seal.tag (Seal.k2 key) nonce along X=T at*
 generalize Seal.mix (Seal.k1 key) nonce X=M at*
 generalize Seal.k1 key=a at*
 generalize Seal.k2 key=b at*
 generalize hn1:box.size-16=n at*
 have hsm:=fun w=>Same_any T Y (by omega) (by omega) w
 have HM:=Lib.hid hM
 have HT:=Lib.hid hT
 have HS:=Lib.hid hsm
 clear hR hM hT hX hY hsm
 go_enter_defers Tryz.func202,Tryz.ntmps202
 go_wp2_with fail
 refine HN.out.mono ?_
 rintro e w1 ⟨g,rfl,hg,hr1,hk1⟩
 have Hp:=Lib.hid (p0.keep hk1 p0.lt)
 have Hq:=Lib.hid (q0.keep hk1 q0.lt)
 have Hk1:Hid (Keep (fun k=>k<w.heap.size+2) w w1):=Lib.hid ((hk0.mono fun _ _ _=>trivial).trans (hk1.mono fun k (hk:k<w.heap.size+2) _=>by omega))
 have HR1:=Lib.hid (HRd.out.keep hk1 (by omega))
 have Hr1:=Lib.hid hr1
 have hgz:w.heap.size+2≤g:=by omega
 clear hr1 hk1 hk0 p0 q0 HRd HN hg
 go_wp2_with fail
 refine(must_true _ _).mono ?_
 rintro e w2 ⟨rfl,rfl⟩
 have e65:(n:Int)≤65536:=by omega
 go_wp2_with fail
 try rw [decide_eq_true e65]
 refine(must_true _ _).mono ?_
 rintro e w3 ⟨rfl,rfl⟩
 go_wp2_with fail
 have hmx:Tryz.prog.follows .mixedOrders=true:=by kernel_rfl
 have hkd:Keep (fun _=>True) w3 (World.drew w3):=(Keep.refl _ w3).drew
 refine wp_only ?_
 go_region_with (first
  | (go_at_call 206;refine(HT.out g (World.drew w3) (HR1.out.keep hkd trivial) (Hr1.out.keep hkd trivial)).mono ?_;rintro e w4 ⟨rfl,hk4⟩;have hk4':Keep (fun _=>True) w3 w4:=hkd.trans (hk4.mono fun k _ hl=>hl))
  | (go_at_call 221;refine(HS.out _).mono ?_;rintro e w5 ⟨rfl,hk5⟩;have hk5':Keep (fun _=>True) w3 w5:=hk4'.trans (hk5.mono fun k _ hl=>hl)))
 all_goals
  dsimp only [OnlyQ]
  have hp5:=Hp.out.keep hk5' trivial
  have hq5:=Hq.out.keep hk5' trivial
  have hr5:=Hr1.out.keep hk5' trivial
  have hk05:Keep (fun k=>k<w.heap.size+2) w w5:=Hk1.out.trans (hk5'.mono fun _ _ _=>trivial)
  have Hp5:=Lib.hid hp5
  have Hq5:=Lib.hid hq5
  have Hr5:=Lib.hid hr5
  have Hk5:=Lib.hid hk05
  clear hp5 hq5 hr5 hk05 hk5' hk4'
  by_cases hty:T=Y
  · rw [decide_eq_true hty]
    go_wp2_with fail
    refine(must_true _ _).mono ?_
    rintro e w6 ⟨rfl,rfl⟩
    go_wp2_with fail
    refine(HM.out g _ Hr5.out).mono ?_
    rintro e w7 ⟨rfl,hk7⟩
    have hp7:=Hp5.out.keep hk7 Hp5.out.lt
    have hq7:=Hq5.out.keep hk7 Hq5.out.lt
    have hk07:Keep (fun k=>k<w.heap.size+2) w w7:=Hk5.out.trans (hk7.mono fun k (hk:k<w.heap.size+2) _=>by have:=Hq5.out.lt;omega)
    have cp:w7.cell? ⟨w.heap.size,0,none⟩=some (.string ⟨#[]⟩):=hp7.cell 0
    have fp:=hp7.frozen 0
    have cq:w7.cell? ⟨w.heap.size+1,0,none⟩=some (.int .i64 0):=hq7.cell 0
    have fq:=hq7.frozen 0
    have hkf:Keep (fun k=>k<w.heap.size) w ((w7.setCell ⟨w.heap.size,0,none⟩ (.string M)).setCell ⟨w.heap.size+1,0,none⟩ (.int .i64 0)):=
     ((hk07.mono fun k (hk:k<w.heap.size) _=>by omega).setCell (p:=⟨w.heap.size,0,none⟩) (fun hx=>absurd hx (by dsimp only;omega)) _).setCell (p:=⟨w.heap.size+1,0,none⟩) (fun hx=>absurd hx (by dsimp only;omega)) _
    have Hkf:=Lib.hid hkf
    clear hp7 hq7 hk7 hk07 hkf
    go_wp2
    refine leaves_cons (f:=203) (args:=#[.pointer (some ⟨w.heap.size,0,none⟩),.pointer (some ⟨w.heap.size+1,0,none⟩)]) (by simp) (by simp [go_sem]) ?_
    refine(caught_idle ⟨w.heap.size,0,none⟩ ⟨w.heap.size+1,0,none⟩ _).mono ?_
    rintro e u' w'' ⟨rfl,rfl,rfl⟩
    have g0:((w7.setCell ⟨w.heap.size,0,none⟩ (.string M)).setCell ⟨w.heap.size+1,0,none⟩ (.int .i64 0)).cell? ⟨w.heap.size,0,none⟩=some (.string M):=by go_simp
    have g1:((w7.setCell ⟨w.heap.size,0,none⟩ (.string M)).setCell ⟨w.heap.size+1,0,none⟩ (.int .i64 0)).cell? ⟨w.heap.size+1,0,none⟩=some (.int .i64 0):=by go_simp
    refine⟨.tuple #[.string M,.int .i64 0],?_,.inl ⟨hty,rfl⟩,Hkf.out⟩
    generalize (w7.setCell ⟨w.heap.size,0,none⟩ (.string M)).setCell ⟨w.heap.size+1,0,none⟩ (.int .i64 0)=WF at*
    simp [results,Tryz.results202,go_sem,g0,g1]
  · rw [decide_eq_false hty]
    go_wp2_with fail
    refine(must_false 11 _).mono ?_
    rintro e w6 ⟨rfl,rfl⟩
    refine leaves_cons (f:=203) (args:=#[.pointer (some ⟨w.heap.size,0,none⟩),.pointer (some ⟨w.heap.size+1,0,none⟩)]) (by simp) (by simp [go_sem]) ?_
    refine(caught_stop w.heap.size ⟨#[]⟩ 0 11 [] _ (Hp5.out.cell 0) (Hp5.out.frozen 0) (Hq5.out.cell 0) (Hq5.out.frozen 0)).mono ?_
    rintro e u' w7 ⟨rfl,rfl,g0,g1,hk7⟩
    refine⟨.tuple #[.string ⟨#[]⟩,.int .i64 11],?_,.inr ⟨hty,rfl⟩,(Hk5.out.mono fun k (hk:k<w.heap.size) _=>by omega).trans (hk7.mono fun k (hk:k<w.heap.size) _=>by omega)⟩
    simp [results,Tryz.results202,go_sem,g0,g1]
end Go.Proofs.YtpnbkfboneabaaaGreat
