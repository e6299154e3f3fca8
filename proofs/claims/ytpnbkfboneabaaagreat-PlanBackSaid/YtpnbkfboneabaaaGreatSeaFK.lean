import Derived.Test.YtpnbkfboneabaaaGreatSeaEK
set_option maxRecDepth 100000
set_option maxHeartbeats 2000000
namespace Go.Proofs.YtpnbkfboneabaaaGreat
open Go.RowKit
def Seal.box [Sha.Words] (key nonce along text:ByteArray):ByteArray:=Seal.mix (Seal.k1 key) nonce text++Seal.tag (Seal.k2 key) nonce along (Seal.mix (Seal.k1 key) nonce text)
theorem Seal.box_size [Sha.Words] (key nonce along text:ByteArray):(Seal.box key nonce along text).size=text.size+16:=by
 unfold Seal.box
 rw [ByteArray.size_append,Seal.mix_size,Seal.tag_size]
theorem Seal_any [Sha.Words] (key nonce along text:ByteArray) (hk:key.size=32) (hn:nonce.size=16) (hw:along.size≤4096) (ht:text.size≤65536) (w:World) (hR:Sha.RoundIn w):
 Calls Tryz.prog 195 #[.string key,.string nonce,.string along,.string text] w fun e w'=>e= .returned (.tuple #[.string (Seal.box key nonce along text),.int .i64 0])∧Keep (fun k=>k<w.heap.size) w w':=by
 have h0:=hR.pos
 have HRd:=Lib.hid hR
 have hN:=fun w hR=>newSealer_any key nonce along hk hn hw w hR
 have hM:=fun g w hr=>mixed_any g (Seal.k1 key) (Seal.k2 key) nonce along text (Seal.k1_size key) hn ht w hr
 have hT:=fun g w hR hr=>tagged_any g (Seal.k1 key) (Seal.k2 key) nonce along (Seal.mix (Seal.k1 key) nonce text) (by rw [Seal.k2_size];decide) (by omega) hw (by rw [Seal.mix_size];omega) w hR hr
 have hms:=Seal.mix_size (Seal.k1 key) nonce text
 have hts:=Seal.tag_size (Seal.k2 key) nonce along (Seal.mix (Seal.k1 key) nonce text)
 unfold Seal.box
 generalize Seal.tag (Seal.k2 key) nonce along (Seal.mix (Seal.k1 key) nonce text)=T at*
 generalize Seal.mix (Seal.k1 key) nonce text=M at*
 generalize Seal.k1 key=a at*
 generalize Seal.k2 key=b at*
 have hadd:∀ W,(Op.stringOp .add M T).run Tryz.prog W= .ok (.string (M++T)) W:=fun W=>run_string_add_sum W _ _ (by omega)
 have HN:=Lib.hid hN
 have HM:=Lib.hid hM
 have HT:=Lib.hid hT
 clear hR hN hM hT
 go_enter_defers Tryz.func195,Tryz.ntmps195
 go_wp2_with fail
 obtain⟨h,hh⟩:∃ h,w.heap.size=h:=⟨_,rfl⟩
 obtain⟨W0,hW0⟩:∃ W0,(w.alloc (.cells #[.string ⟨#[]⟩] 9)).alloc (.cells #[.int .i64 0] 39)=W0:=⟨_,rfl⟩
 have hk0:Keep (fun _=>True) w W0:=by rw [← hW0];exact((Keep.refl _ _).alloc _).alloc _
 have hz0:W0.heap.size=h+2:=by rw [← hW0,← hh];simp
 have p0:Row W0 h 9 #[.string ⟨#[]⟩]:=by
  rw [← hW0,← hh]
  exact(Row.new w _ _).alloc _
 have q0:Row W0 (h+1) 39 #[.int .i64 0]:=by
  have h1:=Row.new (w.alloc (.cells #[.string ⟨#[]⟩] 9)) 39 #[.int .i64 0]
  rw [World.size_alloc,hh] at h1
  rwa [← hW0]
 have hh2:w.heap.size+1=h+1:=by rw [hh]
 rw [hW0,hh]
 refine(HN.out _ (HRd.out.keep hk0 trivial)).mono ?_
 rintro e w1 ⟨g,rfl,hg,hr1,hk1⟩
 have p1:=p0.keep hk1 (by omega)
 have q1:=q0.keep hk1 (by omega)
 have hk01:Keep (fun k=>k<h+2) w w1:=(hk0.mono fun _ _ _=>trivial).trans (hk1.mono fun k (hk:k<h+2) _=>by omega)
 have Hr1:=Lib.hid hr1
 have Hk1:=Lib.hid hk01
 have Hp:=Lib.hid p1
 have Hq:=Lib.hid q1
 clear hr1 hk1 hk01 p0 q0 p1 q1 hk0 hW0
 go_wp2_with fail
 refine(HM.out g _ Hr1.out).mono ?_
 rintro e w2 ⟨rfl,hk2⟩
 have Hr2:=Lib.hid (Hr1.out.keep hk2 Hr1.out.lt)
 have Hk2:=Lib.hid (Hk1.out.trans (hk2.mono fun k (hk:k<h+2) _=>by have:=Hr1.out.lt;omega))
 have Hp2:=Lib.hid (Hp.out.keep hk2 Hp.out.lt)
 have Hq2:=Lib.hid (Hq.out.keep hk2 Hq.out.lt)
 clear hk2 Hr1 Hk1 Hp Hq
 go_wp2_with fail
 refine(HT.out g _ (HRd.out.keep Hk2.out (by omega)) Hr2.out).mono ?_
 rintro e w3 ⟨rfl,hk3⟩
 have hr3:=Hp2.out.keep hk3 Hp2.out.lt
 have hq3:=Hq2.out.keep hk3 Hq2.out.lt
 have hk03:Keep (fun k=>k<h+2) w w3:=Hk2.out.trans (hk3.mono fun k (hk:k<h+2) _=>by have:=Hq2.out.lt;omega)
 have cp:w3.cell? ⟨h,0,none⟩=some (.string ⟨#[]⟩):=hr3.cell 0
 have fp:=hr3.frozen 0
 have cq:w3.cell? ⟨h+1,0,none⟩=some (.int .i64 0):=hq3.cell 0
 have fq:=hq3.frozen 0
 have hkf:Keep (fun k=>k<h) w ((w3.setCell ⟨h,0,none⟩ (.string (M++T))).setCell ⟨h+1,0,none⟩ (.int .i64 0)):=
  ((hk03.mono fun k (hk:k<h) _=>by omega).setCell (p:=⟨h,0,none⟩) (fun hx=>absurd hx (by dsimp only;omega)) _).setCell (p:=⟨h+1,0,none⟩) (fun hx=>absurd hx (by dsimp only;omega)) _
 have Hkf:=Lib.hid hkf
 clear hr3 hq3 hk3 hk03 hkf Hk2 Hr2 Hp2 Hq2 HN HM HT
 go_wp2
 refine leaves_cons (f:=203) (args:=#[.pointer (some ⟨h,0,none⟩),.pointer (some ⟨h+1,0,none⟩)]) (by simp) (by simp [go_sem]) ?_
 refine(caught_idle ⟨h,0,none⟩ ⟨h+1,0,none⟩ _).mono ?_
 rintro e u' w'' ⟨rfl,rfl,rfl⟩
 have g0:((w3.setCell ⟨h,0,none⟩ (.string (M++T))).setCell ⟨h+1,0,none⟩ (.int .i64 0)).cell? ⟨h,0,none⟩=some (.string (M++T)):=by go_simp
 have g1:((w3.setCell ⟨h,0,none⟩ (.string (M++T))).setCell ⟨h+1,0,none⟩ (.int .i64 0)).cell? ⟨h+1,0,none⟩=some (.int .i64 0):=by go_simp
 refine⟨.tuple #[.string (M++T),.int .i64 0],?_,rfl,by rw [hh];exact Hkf.out⟩
 generalize (w3.setCell ⟨h,0,none⟩ (.string (M++T))).setCell ⟨h+1,0,none⟩ (.int .i64 0)=WF at*
 simp [results,Tryz.results195,go_sem,g0,g1]
end Go.Proofs.YtpnbkfboneabaaaGreat
