import Derived.Test.YtpnbkfboneabaaaGreatSeaCK
import Derived.Deep.RegionWith
import Derived.Shelf.RegionOpen
set_option maxRecDepth 100000
set_option maxHeartbeats 2000000
namespace Go.Proofs.YtpnbkfboneabaaaGreat
open Go.RowKit
theorem newSealer_any [Sha.Words] (key nonce along:ByteArray) (hk:key.size=32) (hn:nonce.size=16) (hw:along.size≤4096) (w:World) (hR:Sha.RoundIn w):
 Calls Tryz.prog 204 #[.string key,.string nonce,.string along] w fun e w'=>∃ g,e= .returned (.pointer (some ⟨g,0,none⟩))∧w.heap.size≤g∧
  Row w' g 285 #[.string (Seal.k1 key),.string (Seal.k2 key),.string nonce,.string along]∧Keep (fun k=>k<w.heap.size) w w':=by
 have e1:((nonce.size:Int) == 16)=true:=by rw [beq_iff_eq];omega
 have e2:(along.size:Int)≤4096:=by omega
 have HK:=Lib.hid (sealKeys_any key hk w hR)
 clear hR
 generalize Seal.k1 key=a at*
 generalize Seal.k2 key=b at*
 go_enter Tryz.func204,Tryz.ntmps204
 go_wp2_with fail
 refine HK.out.mono ?_
 rintro e w1 ⟨rfl,hk1⟩
 have Hk1:=Lib.hid hk1
 clear hk1
 go_wp2_with fail
 refine(must_true _ _).mono ?_
 rintro e w2 ⟨rfl,rfl⟩
 have Hrow:=Lib.hid (Row.new w2 285 #[.string a,.string b,.string nonce,.string along])
 go_wp2
 go_ret
 exact⟨w2.heap.size,rfl,Hk1.out.size,Hrow.out,Hk1.out.trans ((Keep.refl _ _).alloc _)⟩
def Seal.tag [Sha.Words] (k2 nonce along c:ByteArray):ByteArray:=(Mac.mac k2 ⟨(Seal.frames [nonce,along,c]).toArray⟩).extract 0 16
theorem Seal.tag_size [Sha.Words] (k2 nonce along c:ByteArray):(Seal.tag k2 nonce along c).size=16:=by
 unfold Seal.tag
 rw [ByteArray.size_extract,Mac.mac_size]
 rfl
theorem tagged_any [Sha.Words] (g:Nat) (k1 k2 nonce along c:ByteArray) (hk:k2.size≤64) (hn:nonce.size≤16) (hw:along.size≤4096) (hc:c.size≤70000) (w:World) (hR:Sha.RoundIn w) (hr:Row w g 285 #[.string k1,.string k2,.string nonce,.string along]):
 Calls Tryz.prog 206 #[.pointer (some ⟨g,0,none⟩),.string c] w fun e w'=>e= .returned (.string (Seal.tag k2 nonce along c))∧Keep (fun k=>k<w.heap.size) w w':=by
 have h0:=hR.pos
 have hg:=hr.lt
 have c0:w.cell? ⟨g,0,none⟩=some (.string k1):=hr.cell 0
 have c1:w.cell? ⟨g,1,none⟩=some (.string k2):=hr.cell 1
 have c2:w.cell? ⟨g,2,none⟩=some (.string nonce):=hr.cell 2
 have c3:w.cell? ⟨g,3,none⟩=some (.string along):=hr.cell 3
 have HRd:=Lib.hid hR
 have hF:=fun(t:TypeId) (W:World)=>frames_any W.heap.size t nonce along c ⟨by omega,by omega,by omega⟩ (W.alloc (.cells #[.string nonce,.string along,.string c] t)) (Row.new W t _)
 have hfl:(⟨(Seal.frames [nonce,along,c]).toArray⟩:ByteArray).size≤100000:=by
  show(Seal.frames [nonce,along,c]).toArray.size≤100000
  rw [List.size_toArray]
  simp only [Seal.frames,List.flatMap_cons,List.flatMap_nil,List.length_append,Seal.head,List.length_map,List.length_range,List.append_nil]
  have a1:nonce.data.toList.length=nonce.size:=rfl
  have a2:along.data.toList.length=along.size:=rfl
  have a3:c.data.toList.length=c.size:=rfl
  omega
 have hM:=fun w hR=>Mac_any k2 ⟨(Seal.frames [nonce,along,c]).toArray⟩ hk (by omega) w hR
 have hts:=Mac.mac_size k2 ⟨(Seal.frames [nonce,along,c]).toArray⟩
 unfold Seal.tag
 generalize (⟨(Seal.frames [nonce,along,c]).toArray⟩:ByteArray)=T at*
 generalize Mac.mac k2 T=M at*
 have hsl:∀ W,(Instr.slice 9 (.string M) none (some (.int .i64 16)) none).run Tryz.prog W= .ok (.string (M.extract 0 16)) W:=fun W=>sl_hi M 16 16 rfl (by omega) W
 have HF:=Lib.hid hF
 have HM:=Lib.hid hM
 clear hR hr hF hM hfl
 go_enter Tryz.func206,Tryz.ntmps206
 go_wp2_with fail
 have hka:Keep (fun _=>True) w ((World.drew w).alloc (.cells #[.string nonce,.string along,.string c] 9)):=((Keep.refl _ w).drew).alloc _
 have hmx:Tryz.prog.follows .mixedOrders=true:=by kernel_rfl
 refine wp_only ?_
 go_region_with (first
  | (go_at_call 224;refine(HF.out _ (World.drew w)).mono ?_;rintro e w3 ⟨rfl,hk3⟩;have hk3':Keep (fun _=>True) w w3:=hka.trans (hk3.mono fun k _ hl=>hl);have q1:w3.cell? ⟨g,1,none⟩=some (.string k2):=hk3'.cell (p:=⟨g,1,none⟩) trivial c1;have hr3:Sha.RoundIn w3:=HRd.out.keep hk3' trivial)
  | (go_at_call 200;refine(HM.out _ hr3).mono ?_;rintro e w4 ⟨rfl,hk4⟩;have hk4':Keep (fun _=>True) w w4:=hk3'.trans (hk4.mono fun k _ hl=>hl)))
 all_goals
  dsimp only [OnlyQ]
  go_wp2
  go_ret
  exact⟨rfl,hk4'.mono fun _ _ _=>trivial⟩
end Go.Proofs.YtpnbkfboneabaaaGreat
