import Derived.Test.YtpnbkfboneabaaaGreatGA
import Derived.WalkKit
import Derived.WalkLawsBesides
import Derived.Defers
import Derived.Recover
import Derived.Laws.Pointers
set_option maxRecDepth 100000
set_option maxHeartbeats 1000000
namespace Go.Proofs.YtpnbkfboneabaaaGreat
open Go.RowKit
theorem must_true (e:Value) (w:World):Calls Tryz.prog 220 #[.bool true,e] w fun r w'=>r= .returned (.tuple #[])∧w'=w:=by
 go_enter Tryz.func220,Tryz.ntmps220
 go_wp2
 go_end0
 exact⟨rfl,rfl⟩
theorem must_false (e:Int) (w:World):Calls Tryz.prog 220 #[.bool false,.int .i64 e] w fun r w'=>r= .panicked [{ v:= .iface 283 (.agg #[.int .i64 e]),recovered:=false }]∧w'=w:=by
 go_enter Tryz.func220,Tryz.ntmps220
 go_wp2
 exact⟨rfl,rfl,rfl⟩
theorem wpS_open {P:Program} {c:Code} {Q:Exit→Act→List Frame→World→Prop} {a:Act} {cs:List Frame} {w:World}
 (h:∀ R:Exit→Act→World→Prop,(∀ e a w,Q e a cs w→R e a w)→c.wp P R a w):c.wpS P Q a cs w:=wpS_of_wp (h _ fun _ _ _ h=>h)
theorem caught_idle (p q:Addr) (w:World):
 CallsD Tryz.prog 203 #[.pointer (some p),.pointer (some q)] .returning w fun e u' w'=>e= .returned (.tuple #[])∧u'= .returning∧w'=w:=by
 refine callsD_of_wpS Tryz.func203 rfl fun c₀ cs hu=> ?_
 apply wpS_seq
 apply wpS_region
 simp [wpOpsS,go_sem,recoverD,hu,Tryz.ntmps203,Exit.thenS]
 refine wpS_open fun R hR=> ?_
 change Code.wp _ _ _ { tmps:=#[.pointer (some p),.pointer (some q),undef,undef,undef,undef,undef,.nilIface,undef,undef,undef,undef,undef,undef,undef,undef,undef,undef,undef],defers:=[] } w
 go_wp2
 exact⟨rfl,.returning,by cases c₀;simp_all,.tuple #[],results_none rfl _ _ _,rfl,rfl,rfl⟩
theorem caught_stop (b:Nat) (x:ByteArray) (y z:Int) (older:List PanicEntry) (w:World) (hp:w.cell? ⟨b,0,none⟩=some (.string x)) (hpz:w.frozen? ⟨b,0,none⟩=false) (hq:w.cell? ⟨b+1,0,none⟩=some (.int .i64 y)) (hqz:w.frozen? ⟨b+1,0,none⟩=false):
 CallsD Tryz.prog 203 #[.pointer (some ⟨b,0,none⟩),.pointer (some ⟨b+1,0,none⟩)] (.panicking ({ v:= .iface 283 (.agg #[.int .i64 z]),recovered:=false }::older)) w fun e u' w'=>
  e= .returned (.tuple #[])∧u'= .panicking ({ v:= .iface 283 (.agg #[.int .i64 z]),recovered:=true }::older)∧w'.cell? ⟨b,0,none⟩=some (.string ⟨#[]⟩)∧w'.cell? ⟨b+1,0,none⟩=some (.int .i64 z)∧Keep (fun k=>k≠b∧k≠b+1) w w':=by
 have hta:∀ T W,(Instr.typeAssert (.iface 283 (.agg #[.int .i64 z])) T 283 true).run Tryz.prog W= .ok (.tuple #[.agg #[.int .i64 z],.bool true]) W:=fun T W=>by kernel_rfl
 refine callsD_of_wpS Tryz.func203 rfl fun c₀ cs hu=> ?_
 apply wpS_seq
 apply wpS_region
 simp [wpOpsS,go_sem,recoverD,hu,Tryz.ntmps203,Exit.thenS]
 refine wpS_open fun R hR=> ?_
 change Code.wp _ _ _ { tmps:=#[.pointer (some ⟨b,0,none⟩),.pointer (some ⟨b+1,0,none⟩),undef,undef,undef,undef,undef,.iface 283 (.agg #[.int .i64 z]),undef,undef,undef,undef,undef,undef,undef,undef,undef,undef,undef],defers:=[] } w
 have hqw:b+1<w.heap.size:=World.block_lt_of_cell? _ _ hq
 have hpw:b<w.heap.size:=by omega
 have hba:Below w.heap.size w (w.alloc (.cells #[.int .i64 z] 283)):=(Below.refl _ w).alloc (Nat.le_refl _) _
 have hfp:(w.alloc (.cells #[.int .i64 z] 283)).drew.frozen? ⟨b,0,none⟩=false:=(frozen_below hba hp).trans hpz
 have hfq:(w.alloc (.cells #[.int .i64 z] 283)).drew.frozen? ⟨b+1,0,none⟩=false:=(frozen_below hba hq).trans hqz
 have hfp1:(w.alloc (.cells #[.int .i64 z] 283)).frozen? ⟨b,0,none⟩=false:=hfp
 have hfq1:(w.alloc (.cells #[.int .i64 z] 283)).frozen? ⟨b+1,0,none⟩=false:=hfq
 clear hba
 go_wp2
 go_region
 all_goals
  go_wp2
  refine⟨rfl,.panicking ({ v:= .iface 283 (.agg #[.int .i64 z]),recovered:=true }::older),by cases c₀;simp_all,.tuple #[],results_none rfl _ _ _,rfl,rfl,?_,?_,?_⟩
  · go_simp
  · go_simp
  · have hk:Keep (fun k=>¬ k=b∧¬ k=b+1) w ((w.setCell ⟨b,0,none⟩ (.string ⟨#[]⟩)).setCell ⟨b+1,0,none⟩ (.int .i64 z)):=
     ((Keep.refl _ w).setCell (p:=⟨b,0,none⟩) (fun h=>absurd rfl h.1) _).setCell (p:=⟨b+1,0,none⟩) (fun h=>absurd rfl h.2) _
    first | exact(hk.alloc _).drew | exact hk.alloc _ | exact hk.drew.alloc _
end Go.Proofs.YtpnbkfboneabaaaGreat
