import Derived.Test.YtpnbkfboneabaaaGreatGD
import Derived.Test.YtpnbkfboneabaaaGreatGA
set_option maxRecDepth 100000
set_option maxHeartbeats 1600000
namespace Go.Proofs.YtpnbkfboneabaaaGreat
open Go.RowKit
def Str.good (t:ByteArray):Bool:=decide (t.size=16∨t.size=32)
def Str.Told (t:ByteArray):Prop:=∀ w,Calls Tryz.prog 257 #[.string t] w fun e w'=>
    ∃ x f,e= .returned (.tuple #[.string x,.int .i64 f])∧(f == (0:Int))=Str.good t∧Below w.heap.size w w'
theorem is1_any (b bk:Nat) (t:ByteArray) (c1 c2 c3 c4:Value) (hE:Str.Told t) (w:World) (hk:w.cell? ⟨bk,0,none⟩=some (.pointer (some ⟨b,0,none⟩))) (hr:Row w b 316 #[.string t,c1,c2,c3,c4]):
 Calls Tryz.prog 256 #[.pointer (some ⟨bk,0,none⟩)] w fun e w'=>e= .returned (.tuple #[])∧Row w' b 316 #[.string t,c1,c2,c3,.bool (Str.good t)]∧Keep (fun k=>k≠b) w w':=by
 have q0:=hr.cell 0
 have f0:=hr.frozen 0
 have Hr:=Lib.hid hr
 have HE:=Lib.hid hE
 clear hr hE
 go_enter Tryz.func256,Tryz.ntmps256
 go_wp2_with fail
 refine(HE.out _).mono ?_
 rintro e w1 ⟨x,f,rfl,hf,hb1⟩
 have hkb:=cell_below hb1 hk
 have hr1:=Hr.out.below hb1 Hr.out.lt
 have q4:=hr1.cell 4
 have f4:=hr1.frozen 4
 have hr2:=hr1.store 4 (.bool (Str.good t))
 have hk1:Keep (fun k=>k≠b) w (w1.setCell ⟨b,4,none⟩ (.bool (Str.good t))):=((Keep.below hb1).mono fun _ _ _=>trivial).setCell (p:=⟨b,4,none⟩) (fun h=>absurd rfl h) _
 have Hr2:=Lib.hid hr2
 have Hk1:=Lib.hid hk1
 clear hr1 hr2 hk1 hb1 hk
 go_wp2
 go_end0
 exact⟨rfl,Hr2.out,Hk1.out⟩
theorem keySlow_any (b bk:Nat) (t:ByteArray) (c3:Value) (f:Bool) (hE:Str.Told t) (w:World) (hk:w.cell? ⟨bk,0,none⟩=some (.pointer (some ⟨b,0,none⟩))) (hbk:bk≠b) (hr:Row w b 316 #[.string t,.int .u32 0,.int .i32 0,c3,.bool f]):
 Calls Tryz.prog 266 #[.pointer (some ⟨b,1,none⟩),.func (.func 256) #[] #[.pointer (some ⟨bk,0,none⟩)]] w fun e w'=>e= .returned (.tuple #[])∧Row w' b 316 #[.string t,.int .u32 1,.int .i32 0,c3,.bool (Str.good t)]∧Keep (fun k=>k≠b) w w':=by
 have c2:=hr.cell 2
 have f2:=hr.frozen 2
 have hr1:Row (w.setCell ⟨b,2,none⟩ (.int .i32 1)) b 316 #[.string t,.int .u32 0,.int .i32 1,c3,.bool f]:=hr.store 2 _
 have hk1:Keep (fun k=>k≠b) w (w.setCell ⟨b,2,none⟩ (.int .i32 1)):=(Keep.refl _ w).setCell (fun h=>absurd rfl h) _
 have hkk:(w.setCell ⟨b,2,none⟩ (.int .i32 1)).cell? ⟨bk,0,none⟩=some (.pointer (some ⟨b,0,none⟩)):=hk1.cell hbk hk
 have hl:=run_call_load (P:=Tryz.prog) Tryz.func270 (by kernel_rfl) (by kernel_rfl) (by kernel_rfl) .u32 (by kernel_rfl) (w:=w.setCell ⟨b,2,none⟩ (.int .i32 1)) (a:=⟨b,1,none⟩) (x:=0) (hr1.cell 1)
 have hnot:∀(x:Bool) (w:World),(Op.unary .not (.bool x)).run Tryz.prog w= .ok (.bool (!x)) w:=fun _ _=>rfl
 have Hr1:=Lib.hid hr1
 have Hb:=Lib.hid hr.lt
 have Hk1:=Lib.hid hk1
 have Hkk:=Lib.hid hkk
 have HE:=Lib.hid hE
 clear hr1 hk1 hr hkk hE hk
 go_enter_defers Tryz.func266,Tryz.ntmps266
 go_wp2_with (first | (go_at_call 271;refine(Once.lock_free ⟨b,2,none⟩ _ (by go_simp) (by go_simp)).mono ?_;rintro e w' ⟨rfl,rfl⟩) | (go_at_call 265;go_in) | (go_at_call 256;refine(is1_any b bk t (.int .u32 0) (.int .i32 1) c3 (.bool f) HE.out _ Hkk.out Hr1.out).mono ?_;rintro e w2 ⟨rfl,hr2,hk2⟩))
 have hr3:=(hr2.drew.store 1 (.int .u32 1)).store 2 (.int .i32 0)
 have hset:Keep (fun k=>k≠b) w2 ((w2.drew.setCell ⟨b,1,none⟩ (.int .u32 1)).setCell ⟨b,2,none⟩ (.int .i32 0)):=
  ((Keep.refl _ w2).drew.setCell (p:=⟨b,1,none⟩) (fun h=>absurd rfl h) _).setCell (p:=⟨b,2,none⟩) (fun h=>absurd rfl h) _
 have hk3:=(Hk1.out.trans hk2).trans hset
 have d2:=(hr2.drew.store 1 (.int .u32 1)).cell 2
 have g2:=(hr2.drew.store 1 (.int .u32 1)).frozen 2
 go_wp2
 refine leaves_cons (f:=273) (args:=#[.pointer (some ⟨b,1,none⟩),.bool true]) (by simp) (by simp [go_sem]) ?_
 refine(Once.store_deferred ⟨b,1,none⟩ (.int .u32 0) .returning _ (hr2.cell 1) (hr2.frozen 1)).mono ?_
 rintro e u' w'' ⟨rfl,rfl,rfl⟩
 refine leaves_cons (f:=272) (args:=#[.pointer (some ⟨b,2,none⟩)]) (by simp [settle]) (by simp [go_sem]) ?_
 refine(Once.unlock_deferred ⟨b,2,none⟩ _ _ d2 g2).mono ?_
 rintro e u' w'' ⟨rfl,rfl,rfl⟩
 simp [Leaves,settle,results,Tryz.results266]
 exact⟨hr3,hk3⟩
theorem keyDo_first (b bk:Nat) (t:ByteArray) (c3:Value) (f:Bool) (hE:Str.Told t) (w:World) (hk:w.cell? ⟨bk,0,none⟩=some (.pointer (some ⟨b,0,none⟩))) (hbk:bk≠b) (hr:Row w b 316 #[.string t,.int .u32 0,.int .i32 0,c3,.bool f]):
 Calls Tryz.prog 255 #[.pointer (some ⟨b,1,none⟩),.func (.func 256) #[] #[.pointer (some ⟨bk,0,none⟩)]] w fun e w'=>e= .returned (.tuple #[])∧Row w' b 316 #[.string t,.int .u32 1,.int .i32 0,c3,.bool (Str.good t)]∧Keep (fun k=>k≠b) w w':=by
 have hl:=run_call_load (P:=Tryz.prog) Tryz.func270 (by kernel_rfl) (by kernel_rfl) (by kernel_rfl) .u32 (by kernel_rfl) (w:=w) (a:=⟨b,1,none⟩) (x:=0) (hr.cell 1)
 have hnot:∀(x:Bool) (w:World),(Op.unary .not (.bool x)).run Tryz.prog w= .ok (.bool (!x)) w:=fun _ _=>rfl
 have Hr:=Lib.hid hr
 have HE:=Lib.hid hE
 have Hk:=Lib.hid hk
 clear hr hE hk
 go_enter Tryz.func255,Tryz.ntmps255
 go_wp2_with (first | (go_at_call 266;refine(keySlow_any b bk t c3 f HE.out _ Hk.out hbk Hr.out).mono ?_;rintro e w' ⟨rfl,h⟩) | (go_at_call 265;go_in))
 go_end0
 exact⟨rfl,h⟩
theorem keyDo_again (b:Nat) (c0 c2 c3 c4 fv:Value) (w:World) (hr:Row w b 316 #[c0,.int .u32 1,c2,c3,c4]):
 Calls Tryz.prog 255 #[.pointer (some ⟨b,1,none⟩),fv] w fun e w'=>e= .returned (.tuple #[])∧w'=w:=by
 have hl:=run_call_load (P:=Tryz.prog) Tryz.func270 (by kernel_rfl) (by kernel_rfl) (by kernel_rfl) .u32 (by kernel_rfl) (w:=w) (a:=⟨b,1,none⟩) (x:=1) (hr.cell 1)
 have hnot:∀(x:Bool) (w:World),(Op.unary .not (.bool x)).run Tryz.prog w= .ok (.bool (!x)) w:=fun _ _=>rfl
 clear hr
 go_enter Tryz.func255,Tryz.ntmps255
 go_wp2
 go_end0
 exact⟨rfl,rfl⟩
theorem is_first (b:Nat) (t:ByteArray) (c3:Value) (f:Bool) (hE:Str.Told t) (w:World) (hr:Row w b 316 #[.string t,.int .u32 0,.int .i32 0,c3,.bool f]):
 Calls Tryz.prog 246 #[.pointer (some ⟨b,0,none⟩)] w fun e w'=>e= .returned (.bool (Str.good t))∧Row w' b 316 #[.string t,.int .u32 1,.int .i32 0,c3,.bool (Str.good t)]∧Keep (fun k=>k≠b) w w':=by
 have hmf:∀(fn:Fn) (first cap:Array Value) (w:World),(Instr.makeFunc fn first cap).run Tryz.prog w= .ok (.func fn first cap) w:=fun _ _ _ _=>rfl
 have Hr:=Lib.hid hr
 have HE:=Lib.hid hE
 clear hr hE
 go_enter Tryz.func246,Tryz.ntmps246
 go_wp2_with fail
 refine(keyDo_first b w.heap.size t c3 f HE.out _ (by go_simp) (by have:=Hr.out.lt;omega) (Hr.out.alloc _)).mono ?_
 rintro e w' ⟨rfl,hr2,hk2⟩
 have q4:w'.cell? ⟨b,4,none⟩=some (.bool (Str.good t)):=hr2.cell 4
 have qk:w'.cell? ⟨w.heap.size,0,none⟩=some (.pointer (some ⟨b,0,none⟩)):=hk2.cell (p:=⟨w.heap.size,0,none⟩) (by have:=Hr.out.lt;dsimp only;omega) (by go_simp)
 have Hr2:=Lib.hid hr2
 have Hk2:=Lib.hid hk2
 clear hr2 hk2
 go_wp2
 go_ret
 exact⟨rfl,Hr2.out,((Keep.refl _ w).alloc _).trans Hk2.out⟩
theorem is_again (b:Nat) (c0 c2 c3 c4:Value) (w:World) (hr:Row w b 316 #[c0,.int .u32 1,c2,c3,c4]):
 Calls Tryz.prog 246 #[.pointer (some ⟨b,0,none⟩)] w fun e w'=>e= .returned c4∧Below w.heap.size w w':=by
 have hmf:∀(fn:Fn) (first cap:Array Value) (w:World),(Instr.makeFunc fn first cap).run Tryz.prog w= .ok (.func fn first cap) w:=fun _ _ _ _=>rfl
 have hr1:=hr.alloc (.cells #[.pointer (some ⟨b,0,none⟩)] 305)
 have q4:(w.alloc (.cells #[.pointer (some ⟨b,0,none⟩)] 305)).cell? ⟨b,4,none⟩=some c4:=hr1.cell 4
 have Hr:=Lib.hid hr1
 clear hr hr1
 go_enter Tryz.func246,Tryz.ntmps246
 go_wp2_with (go_at_call 255;refine(keyDo_again b _ _ _ _ _ _ Hr.out).mono ?_;rintro e w' ⟨rfl,rfl⟩)
 go_ret
 exact⟨rfl,(Below.refl _ _).alloc (Nat.le_refl _) _⟩
end Go.Proofs.YtpnbkfboneabaaaGreat
