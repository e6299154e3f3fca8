import Derived.Test.YtpnbkfboneabaaaGreatSeaFK
import Derived.Test.YtpnbkfboneabaaaGreatMacDK
set_option maxRecDepth 100000
set_option maxHeartbeats 2000000
namespace Go.Proofs.YtpnbkfboneabaaaGreat
open Go.RowKit
theorem Seal.vars (w:World) (t u:TypeId):Row ((w.alloc (.cells #[.string ⟨#[]⟩] t)).alloc (.cells #[.int .i64 0] u)) w.heap.size t #[.string ⟨#[]⟩]∧
 Row ((w.alloc (.cells #[.string ⟨#[]⟩] t)).alloc (.cells #[.int .i64 0] u)) (w.heap.size+1) u #[.int .i64 0]∧
 Keep (fun _=>True) w ((w.alloc (.cells #[.string ⟨#[]⟩] t)).alloc (.cells #[.int .i64 0] u))∧((w.alloc (.cells #[.string ⟨#[]⟩] t)).alloc (.cells #[.int .i64 0] u)).heap.size=w.heap.size+2:=by
 refine⟨(Row.new w _ _).alloc _,?_,((Keep.refl _ _).alloc _).alloc _,by simp⟩
 have h1:=Row.new (w.alloc (.cells #[.string ⟨#[]⟩] t)) u #[.int .i64 0]
 rwa [World.size_alloc] at h1
theorem Open_short [Sha.Words] (key nonce along box:ByteArray) (hk:key.size=32) (hn:nonce.size=16) (hw:along.size≤4096) (hb:box.size<16) (w:World) (hR:Sha.RoundIn w):
 Calls Tryz.prog 202 #[.string key,.string nonce,.string along,.string box] w fun e w'=>e= .returned (.tuple #[.string ⟨#[]⟩,.int .i64 10])∧Keep (fun k=>k<w.heap.size) w w':=by
 obtain⟨p0,q0,hk0,hz0⟩:=Seal.vars w 9 39
 have HN:=Lib.hid (newSealer_any key nonce along hk hn hw _ (hR.keep hk0 trivial))
 have e1:¬ (16:Int)≤(box.size:Int):=by omega
 clear hR
 go_enter_defers Tryz.func202,Tryz.ntmps202
 go_wp2_with fail
 refine HN.out.mono ?_
 rintro e w1 ⟨g,rfl,hg,hr1,hk1⟩
 have p1:=p0.keep hk1 p0.lt
 have q1:=q0.keep hk1 q0.lt
 have hk01:Keep (fun k=>k<w.heap.size+2) w w1:=(hk0.mono fun _ _ _=>trivial).trans (hk1.mono fun k (hk:k<w.heap.size+2) _=>by omega)
 clear hr1 hk1 hk0 p0 q0
 go_wp2_with fail
 rw [decide_eq_false (show ¬ (16:Int)≤(box.size:Int) by omega)]
 refine(must_false 10 _).mono ?_
 rintro e w2 ⟨rfl,rfl⟩
 refine leaves_cons (f:=203) (args:=#[.pointer (some ⟨w.heap.size,0,none⟩),.pointer (some ⟨w.heap.size+1,0,none⟩)]) (by simp) (by simp [go_sem]) ?_
 refine(caught_stop w.heap.size ⟨#[]⟩ 0 10 [] _ (p1.cell 0) (p1.frozen 0) (q1.cell 0) (q1.frozen 0)).mono ?_
 rintro e u' w3 ⟨rfl,rfl,g0,g1,hk3⟩
 refine⟨.tuple #[.string ⟨#[]⟩,.int .i64 10],?_,rfl,(hk01.mono fun k (hk:k<w.heap.size) _=>by omega).trans (hk3.mono fun k (hk:k<w.heap.size) _=>by omega)⟩
 simp [results,Tryz.results202,go_sem,g0,g1]
end Go.Proofs.YtpnbkfboneabaaaGreat
