/-
  Several texts in one: OraM, OraN, OraO, OraQ, OraR, Reg.
-/
import Derived.Test.YtjnolopnkecmdaaGreatOC
import Derived.Test.YtjnolopnkecmdaaGreatGF
import Derived.Test.YtjnolopnkecmdaaGreatGA
import Derived.Orders
import Derived.RegionTactic

/-
  The laws' own small functions: pick, Word.
-/
namespace Go.Proofs.YtjnolopnkecmdaaGreat
open Go.RowKit

theorem pick9_any (c n : Int) (hc : -9223372036854775808 ≤ c ∧ c ≤ 9223372036854775807) (hn : 0 < n ∧ n < 4611686018427387904) (w : World) :
    Calls Tryz.prog 11 #[.int .i64 c, .int .i64 n] w fun e w' => e = .returned (.int .i64 (pickOf c n)) ∧ w' = w := by
  have hn0 : ¬ (n = 0) := by omega
  go_enter Tryz.func11, Tryz.ntmps11
  by_cases h : c < 0
  · go_wp2
    go_ret
    refine ⟨?_, rfl⟩
    show Ending.returned (Value.int .i64 (-((c + 1).tmod n))) = _
    rw [pickOf, if_pos h, Int.neg_tmod]
  · go_wp2
    go_ret
    refine ⟨?_, rfl⟩
    show Ending.returned (Value.int .i64 (c % n)) = _
    rw [pickOf, if_neg (by omega), Int.tmod_eq_emod_of_nonneg (by omega)]
theorem pick8_any (c n : Int) (hc : -9223372036854775808 ≤ c ∧ c ≤ 9223372036854775807) (hn : 0 < n ∧ n < 4611686018427387904) (w : World) :
    Calls Tryz.prog 45 #[.int .i64 c, .int .i64 n] w fun e w' => e = .returned (.int .i64 (pickOf c n)) ∧ w' = w := by
  have hn0 : ¬ (n = 0) := by omega
  go_enter Tryz.func45, Tryz.ntmps45
  by_cases h : c < 0
  · go_wp2
    go_ret
    refine ⟨?_, rfl⟩
    show Ending.returned (Value.int .i64 (-((c + 1).tmod n))) = _
    rw [pickOf, if_pos h, Int.neg_tmod]
  · go_wp2
    go_ret
    refine ⟨?_, rfl⟩
    show Ending.returned (Value.int .i64 (c % n)) = _
    rw [pickOf, if_neg (by omega), Int.tmod_eq_emod_of_nonneg (by omega)]

def words9 : List ByteArray := [⟨#[]⟩, ⟨#[97]⟩, ⟨#[97, 98]⟩, ⟨#[97, 98, 99]⟩, ⟨#[119, 111, 114, 100]⟩, ⟨#[111, 116, 104, 101, 114, 119, 111, 114, 100]⟩]
def wordOf (c : Int) : ByteArray := words9.getD (pickOf c 6).toNat ⟨#[]⟩

set_option maxRecDepth 100000 in
theorem Word_any (c : Int) (hc : -9223372036854775808 ≤ c ∧ c ≤ 9223372036854775807) (w : World) :
    Calls Tryz.prog 15 #[.int .i64 c] w fun e w' => e = .returned (.string (wordOf c)) ∧ Below w.heap.size w w' := by
  have hP := fun W => pick9_any c 6 hc (by decide) W
  obtain ⟨k, hk, hk6⟩ : ∃ k : Nat, pickOf c 6 = (k : Int) ∧ k < 6 := pick_nat c 6 (by decide)
  unfold wordOf
  rw [hk] at hP ⊢
  have hb0 : Below w.heap.size w (w.alloc (.cells #[.string ⟨#[]⟩, .string ⟨#[97]⟩, .string ⟨#[97, 98]⟩, .string ⟨#[97, 98, 99]⟩, .string ⟨#[119, 111, 114, 100]⟩, .string ⟨#[111, 116, 104, 101, 114, 119, 111, 114, 100]⟩] 9)) := (Below.refl _ w).alloc (Nat.le_refl _) _
  have HP := Lib.hid hP
  clear hP hk hc
  rcases k with _ | _ | _ | _ | _ | _ | k
  all_goals first
    | omega
    | (go_enter Tryz.func15, Tryz.ntmps15
       go_wp2_with fail
       refine (HP.out _).mono ?_
       rintro e w1 ⟨rfl, rfl⟩
       go_wp2
       go_ret
       exact ⟨rfl, hb0⟩)

end Go.Proofs.YtjnolopnkecmdaaGreat

/-
  The laws' own small functions: law08.Text.
-/
namespace Go.Proofs.YtjnolopnkecmdaaGreat
open Go.RowKit

def textOf (k : Nat) : ByteArray := (⟨#[UInt8.ofNat k]⟩ : ByteArray) ++ zeros 23

theorem conv_two_k (k : Nat) (w : World) :
    (convert 63 9 (.slice (some ⟨w.heap.size, 0, none⟩) 23 23)).run Tryz.prog (w.alloc (.cells (zeroCells 23) 5)).drew = .ok (.string (zeros 23)) (w.alloc (.cells (zeroCells 23) 5)).drew ∧
    (convert 63 9 (.slice (some ⟨w.heap.size, 0, none⟩) 23 23)).run Tryz.prog ((w.alloc (.cells (zeroCells 23) 5)).alloc (.cells #[U k] 5)).drew = .ok (.string (zeros 23)) ((w.alloc (.cells (zeroCells 23) 5)).alloc (.cells #[U k] 5)).drew ∧
    (convert 63 9 (.slice (some ⟨w.heap.size + 1, 0, none⟩) 23 23)).run Tryz.prog ((w.alloc (.cells #[U k] 5)).alloc (.cells (zeroCells 23) 5)).drew = .ok (.string (zeros 23)) ((w.alloc (.cells #[U k] 5)).alloc (.cells (zeroCells 23) 5)).drew := by
  have h := Row.new w 5 (zeroCells 23)
  refine ⟨conv_zero _ _ _ h.drew, conv_zero _ _ _ (h.alloc _).drew, conv_zero _ _ _ ?_⟩
  have k := Row.new (w.alloc (.cells #[U k] 5)) 5 (zeroCells 23)
  rw [World.size_alloc] at k
  exact k.drew

theorem conv_k (k : Nat) (g : Nat) (W : World) (h : W.cell? ⟨g, 0, none⟩ = some (.int .u8 (k : Int))) :
    (convert 63 9 (.slice (some ⟨g, 0, none⟩) 1 1)).run Tryz.prog W = .ok (.string ⟨#[UInt8.ofNat k]⟩) W := by
  have h1 := conv_string (P := Tryz.prog) (src := 63) (dst := 9) Tryz.underlying63 Tryz.underlying5 Tryz.underlying9 g 0 1 [k] W (fun j hj => by
    obtain rfl : j = 0 := by simpa using hj
    exact h) 1 rfl
  rw [h1]
  rfl

set_option maxRecDepth 100000 in
set_option maxHeartbeats 2000000 in
theorem Text_any (c : Int) (hc : -9223372036854775808 ≤ c ∧ c ≤ 9223372036854775807) (w : World) :
    Calls Tryz.prog 22 #[.int .i64 c] w fun e w' => e = .returned (.string (textOf (pickOf c 5).toNat)) ∧ Below w.heap.size w w' := by
  have hP := fun W => pick8_any c 5 hc (by decide) W
  obtain ⟨k, hk, hk5⟩ := pick_nat c 5 (by decide)
  change pickOf c 5 = (k : Int) at hk
  rw [hk] at hP ⊢
  rw [Int.toNat_natCast]
  unfold textOf
  have hmk : ∀ W, (Instr.makeSlice 63 (.int .i64 23) (.int .i64 23)).run Tryz.prog W = .ok (.slice (some ⟨W.heap.size, 0, none⟩) 23 23) (W.alloc (.cells (zeroCells 23) 5)) := fun W => make_zero 23 (by decide) W
  obtain ⟨e1, e2, e3⟩ := conv_two_k k w
  have hcv := conv_k k
  have hadd : ∀ W, (Op.stringOp .add ⟨#[UInt8.ofNat k]⟩ (zeros 23)).run Tryz.prog W = .ok (.string (⟨#[UInt8.ofNat k]⟩ ++ zeros 23)) W := fun W => run_string_add_sum W _ _ (by rw [zeros_size]; have : (⟨#[UInt8.ofNat k]⟩ : ByteArray).size = 1 := rfl; omega)
  have hwr : IntKind.u8.wrap (k : Int) = (k : Int) := by rcases k with _ | _ | _ | _ | _ | k <;> first | rfl | omega
  have hbA : Below w.heap.size w ((w.alloc (.cells #[U k] 5)).alloc (.cells (zeroCells 23) 5)).drew := (((Below.refl _ w).alloc (Nat.le_refl _) _).alloc (by rw [World.size_alloc]; omega) _).drew
  have hbB : Below w.heap.size w ((w.alloc (.cells (zeroCells 23) 5)).alloc (.cells #[U k] 5)).drew := (((Below.refl _ w).alloc (Nat.le_refl _) _).alloc (by rw [World.size_alloc]; omega) _).drew
  have HP := Lib.hid hP
  clear hP hk hc
  have hmx : Tryz.prog.follows .mixedOrders = true := by kernel_rfl
  go_enter Tryz.func22, Tryz.ntmps22
  go_upto_region 1 with fail
  refine wp_only ?_
  go_region_with (go_at_call 45; refine (HP.out _).mono ?_; rintro e w1 ⟨rfl, rfl⟩)
  all_goals
    dsimp only [OnlyQ]
    go_wp2
    go_ret
    first
      | exact ⟨rfl, hbA⟩
      | exact ⟨rfl, hbB⟩

end Go.Proofs.YtjnolopnkecmdaaGreat

/-
  Layer 9: what an oracle answers, plain; Label, Cell, Open as one contract each for either mode.
-/
namespace Go.Proofs.YtjnolopnkecmdaaGreat
open Go.RowKit

theorem whole_text (s : ByteArray) (n : Nat) (h : s.size = n) : s.extract 0 n = s := by
  have h2 := (text_join s ⟨#[]⟩).1
  subst h
  have h3 : s ++ (⟨#[]⟩ : ByteArray) = s := by
    apply ByteArray.ext
    show (s ++ (⟨#[]⟩ : ByteArray)).data = s.data
    rw [ByteArray.data_append]
    exact Array.append_empty
  rw [h3] at h2
  exact h2

theorem Idl.label_fed {d : Idl} (hg : d.Good) (hl : d.nm.length ≠ 2000) (q L : ByteArray) (hL : L.size = 16) :
    (∃ s, (q, s) ∈ d.nm ∧ (d.fed L 0).label q = (s, d.fed L 0, 0)) ∨ (q ∉ d.ins ∧ (d.fed L 0).label q = (L, ⟨L, 16, d.nm ++ [(q, L)], d.cl⟩, 0)) := by
  by_cases hf : q ∈ d.ins
  · obtain ⟨s, hs⟩ := Idl.in_ins hf
    exact .inl ⟨s, hs, Idl.label_found (d := d.fed L 0) (hg.fed (by omega) (Nat.zero_le _)) hs⟩
  · refine .inr ⟨hf, ?_⟩
    rw [Idl.label_new (d := d.fed L 0) hf hl (by show 0 + 16 ≤ L.size; omega)]
    unfold Idl.named
    show (L.extract 0 16, (⟨L, 0 + 16, d.nm ++ [(q, L.extract 0 16)], d.cl⟩ : Idl), (0 : Int)) = _
    rw [whole_text L 16 hL]
theorem Idl.cell_fed {d : Idl} (hg : d.Good) (hl : d.cl.length ≠ 2000) (l t L : ByteArray) (hL : L.size = 40) :
    (∃ c, (l, t, c) ∈ d.cl ∧ (d.fed L 0).cell l t = (c, d.fed L 0, 0)) ∨ ((l, t) ∉ d.made ∧ (d.fed L 0).cell l t = (L, ⟨L, 40, d.nm, d.cl ++ [(l, t, L)]⟩, 0)) := by
  by_cases hf : (l, t) ∈ d.made
  · obtain ⟨c, hc⟩ := Idl.in_made hf
    exact .inl ⟨c, hc, Idl.cell_found (d := d.fed L 0) (hg.fed (by omega) (Nat.zero_le _)) hc⟩
  · refine .inr ⟨hf, ?_⟩
    rw [Idl.cell_new (d := d.fed L 0) hf hl (by show 0 + 40 ≤ L.size; omega)]
    unfold Idl.celled
    show (L.extract 0 40, (⟨L, 0 + 40, d.nm, d.cl ++ [(l, t, L.extract 0 40)]⟩ : Idl), (0 : Int)) = _
    rw [whole_text L 40 hL]

namespace Orc

/-- The value of an oracle. -/
def agg (o : Orc) (nv cv : Value) : Value := .agg (Orc.vals o.m o.key o.d.tb o.d.pos nv cv o.d.clash)
/-- Behind a question; behind a cell. -/
def ask [Sha.Words] (o : Orc) (q : ByteArray) : Orc := { o with d := (o.wayL q).2.1 }
def put [Sha.Words] (o : Orc) (l t : ByteArray) : Orc := { o with d := (o.wayC l t).2.1 }
/-- What is taken of the tape. -/
def cost (o : Orc) (n : Nat) : Nat := if o.m = 1 then 0 else n

theorem wayL_cases [Sha.Words] {o : Orc} (hg : o.Good) (q : ByteArray) (hl : o.d.nm.length ≠ 2000) (hp : o.m = 2 → o.d.pos + 16 ≤ o.d.tb.size) :
    (∃ s, (q, s) ∈ o.d.nm ∧ o.wayL q = (s, o.d, 0)) ∨ (q ∉ o.d.ins ∧ ∃ s, s.size = 16 ∧ (o.m = 1 → s = lab o.key q) ∧ o.wayL q = (s, { o.d with pos := o.d.pos + o.cost 16, nm := o.d.nm ++ [(q, s)] }, 0)) := by
  by_cases hm : o.m = 1
  · have hw : o.wayL q = (((o.d.fed (lab o.key q) 0).label q).1, back o.d ((o.d.fed (lab o.key q) 0).label q).2.1, ((o.d.fed (lab o.key q) 0).label q).2.2) := by
      unfold wayL
      rw [if_pos hm]
    have hk : o.cost 16 = 0 := by unfold cost; rw [if_pos hm]
    rcases Idl.label_fed hg.d hl q (lab o.key q) (lab_size _ _) with ⟨s, hs, h⟩ | ⟨hf, h⟩
    · rw [h] at hw
      exact .inl ⟨s, hs, hw⟩
    · rw [h] at hw
      rw [hk]
      exact .inr ⟨hf, lab o.key q, lab_size _ _, fun _ => rfl, hw⟩
  · have hw : o.wayL q = o.d.label q := by
      unfold wayL
      rw [if_neg hm]
    have hk : o.cost 16 = 16 := by unfold cost; rw [if_neg hm]
    rw [hw, hk]
    by_cases hf : q ∈ o.d.ins
    · obtain ⟨s, hs⟩ := Idl.in_ins hf
      exact .inl ⟨s, hs, Idl.label_found hg.d hs⟩
    · have h2 := hp (hg.m.resolve_left hm)
      refine .inr ⟨hf, o.d.tb.extract o.d.pos (o.d.pos + 16), ?_, fun h1 => absurd h1 hm, Idl.label_new hf hl h2⟩
      rw [ByteArray.size_extract]
      omega

theorem wayC_cases [Sha.Words] {o : Orc} (hg : o.Good) (l t : ByteArray) (ht : t.size = 24) (hl : o.d.cl.length ≠ 2000) (hp : o.m = 2 → o.d.pos + 40 ≤ o.d.tb.size) :
    (∃ c, (l, t, c) ∈ o.d.cl ∧ o.wayC l t = (c, o.d, 0)) ∨ ((l, t) ∉ o.d.made ∧ ∃ c, c.size = 40 ∧ (o.m = 1 → c = box o.key l t) ∧ o.wayC l t = (c, { o.d with pos := o.d.pos + o.cost 40, cl := o.d.cl ++ [(l, t, c)] }, 0)) := by
  by_cases hm : o.m = 1
  · have hw : o.wayC l t = (((o.d.fed (box o.key l t) 0).cell l t).1, back o.d ((o.d.fed (box o.key l t) 0).cell l t).2.1, ((o.d.fed (box o.key l t) 0).cell l t).2.2) := by
      unfold wayC
      rw [if_pos hm]
    have hk : o.cost 40 = 0 := by unfold cost; rw [if_pos hm]
    rcases Idl.cell_fed hg.d hl l t (box o.key l t) (box_size _ _ _ ht) with ⟨c, hc, h⟩ | ⟨hf, h⟩
    · rw [h] at hw
      exact .inl ⟨c, hc, hw⟩
    · rw [h] at hw
      rw [hk]
      exact .inr ⟨hf, box o.key l t, box_size _ _ _ ht, fun _ => rfl, hw⟩
  · have hw : o.wayC l t = o.d.cell l t := by
      unfold wayC
      rw [if_neg hm]
    have hk : o.cost 40 = 40 := by unfold cost; rw [if_neg hm]
    rw [hw, hk]
    by_cases hf : (l, t) ∈ o.d.made
    · obtain ⟨c, hc⟩ := Idl.in_made hf
      exact .inl ⟨c, hc, Idl.cell_found hg.d hc⟩
    · have h2 := hp (hg.m.resolve_left hm)
      refine .inr ⟨hf, o.d.tb.extract o.d.pos (o.d.pos + 40), ?_, fun h1 => absurd h1 hm, Idl.cell_new hf hl h2⟩
      rw [ByteArray.size_extract]
      omega

theorem ask_good [Sha.Words] {o : Orc} (hg : o.Good) {q : ByteArray} (hq : q.size ≤ 100) (hl : o.d.nm.length ≠ 2000) : (o.ask q).Good := ⟨hg.m, hg.key, wayL_good hg hq hl⟩
theorem put_good [Sha.Words] {o : Orc} (hg : o.Good) {l t : ByteArray} (hlb : l.size = 16) (htx : t.size = 24) (hl : o.d.cl.length ≠ 2000) (hp : o.m = 2 → o.d.pos + 40 ≤ o.d.tb.size) : (o.put l t).Good := ⟨hg.m, hg.key, wayC_good hg hlb htx hl hp⟩

end Orc

theorem oracleLabel_all [Sha.Words] (o : Orc) (hg : o.Good) (nv cv : Value) (word : ByteArray) (e c : Nat) (hw : word.size ≤ 20) (he : e ≤ 1000000) (hc : c ≤ 1000000) (hl : o.d.nm.length ≠ 2000)
    (hp : o.m = 2 → o.d.pos + 16 ≤ o.d.tb.size) (w : World) (hR : Sha.RoundIn w) (hN : NmAt w 0 nv o.d.nm) (hC : ClAt w 0 cv o.d.cl) :
    Calls Tryz.prog 18 #[o.agg nv cv, .string word, .int .i64 (e : Int), .int .i64 (c : Int)] w fun x w' => ∃ nv' cv', x = .returned (.tuple #[.string (o.wayL (asked word e c)).1, (o.ask (asked word e c)).agg nv' cv', .int .i64 0]) ∧ NmAt w' w.heap.size nv' (o.ask (asked word e c)).d.nm ∧ ClAt w' w.heap.size cv' (o.ask (asked word e c)).d.cl ∧ Below w.heap.size w w' := by
  have hok : (o.wayL (asked word e c)).2.2 = 0 := by
    rcases Orc.wayL_cases hg (asked word e c) hl hp with ⟨s, _, h⟩ | ⟨_, s, _, _, h⟩ <;> rw [h]
  unfold Orc.agg Orc.ask
  rcases hg.m with hm | hm
  · have h := oracleLabel_real o hg hm nv cv word e c hw he hc hl hok w hR hN hC
    rw [← hm] at h
    exact h
  · have h := oracleLabel_drawn o hg hm nv cv word e c hw he hc hl hok w hN hC
    rw [← hm] at h
    exact h

theorem oracleCell_all [Sha.Words] (o : Orc) (hg : o.Good) (nv cv : Value) (lb tx : ByteArray) (hlb : lb.size = 16) (htx : tx.size = 24) (hl : o.d.cl.length ≠ 2000)
    (hp : o.m = 2 → o.d.pos + 40 ≤ o.d.tb.size) (w : World) (hR : Sha.RoundIn w) (hN : NmAt w 0 nv o.d.nm) (hC : ClAt w 0 cv o.d.cl) :
    Calls Tryz.prog 23 #[o.agg nv cv, .string lb, .string tx] w fun x w' => ∃ nv' cv', x = .returned (.tuple #[.string (o.wayC lb tx).1, (o.put lb tx).agg nv' cv', .int .i64 0]) ∧ NmAt w' w.heap.size nv' (o.put lb tx).d.nm ∧ ClAt w' w.heap.size cv' (o.put lb tx).d.cl ∧ Below w.heap.size w w' := by
  have hok : (o.wayC lb tx).2.2 = 0 := by
    rcases Orc.wayC_cases hg lb tx htx hl hp with ⟨s, _, h⟩ | ⟨_, s, _, _, h⟩ <;> rw [h]
  unfold Orc.agg Orc.put
  rcases hg.m with hm | hm
  · have h := oracleCell_real o hg hm nv cv lb tx hlb htx hl hok w hR hN hC
    rw [← hm] at h
    exact h
  · have h := oracleCell_drawn o hg hm nv cv lb tx hlb htx hl (hp hm) hok w hN hC
    rw [← hm] at h
    exact h

theorem oracleOpen_all [Sha.Words] (o : Orc) (hg : o.Good) (nv cv : Value) (lb c : ByteArray) (hlb : lb.size = 16) (hc : c.size = 40) (w : World) (hR : Sha.RoundIn w) (hN : NmAt w 0 nv o.d.nm) (hC : ClAt w 0 cv o.d.cl) :
    Calls Tryz.prog 25 #[o.agg nv cv, .string lb, .string c] w fun x w' => x = .returned (.tuple #[.string (o.wayO lb c).1, .int .i64 (o.wayO lb c).2]) ∧ Below w.heap.size w w' := by
  unfold Orc.agg
  rcases hg.m with hm | hm
  · have h := oracleOpen_real o hg hm nv cv lb c hlb hc w hR hN hC
    rw [← hm] at h
    exact h
  · have h := oracleOpen_drawn o hg hm nv cv lb c hlb hc w hN hC
    rw [← hm] at h
    exact h

theorem oracleRight_all (o : Orc) (hg : o.Good) (nv cv : Value) (w : World) (hN : NmAt w 0 nv o.d.nm) (hC : ClAt w 0 cv o.d.cl) :
    Calls Tryz.prog 20 #[o.agg nv cv] w fun e w' => e = .returned (.bool true) ∧ Below w.heap.size w w' :=
  oracleRight_any o.m hg.m o.key hg.key o.d hg.d nv cv w hN hC

end Go.Proofs.YtjnolopnkecmdaaGreat

/-
  law09's awake.
-/
namespace Go.Proofs.YtjnolopnkecmdaaGreat
open Go.RowKit

def awTape : ByteArray := ⟨#[97, 98, 99, 100, 101, 102, 103, 104, 105, 106, 107, 108, 109, 110, 111, 112, 113]⟩
def awTold : ByteArray := ⟨#[97, 98, 99, 100, 101, 102, 103, 104, 105, 106, 107, 108, 109, 110, 111, 112]⟩
def awQ : ByteArray := asked ⟨#[97, 98]⟩ 0 0
def awS [Sha.Words] : ByteArray := Orc.lab (zeros 32) awQ
def awC [Sha.Words] : ByteArray := Orc.box (zeros 32) awS (textOf 1)
def awQ3 : ByteArray := asked ⟨#[97, 98, 99]⟩ 0 0
theorem awS_size [Sha.Words] : awS.size = 16 := Orc.lab_size _ _
theorem textOf_size (k : Nat) : (textOf k).size = 24 := by
  unfold textOf
  rw [ByteArray.size_append, zeros_size]
  rfl
theorem awC_size [Sha.Words] : awC.size = 40 := Orc.box_size _ _ _ (textOf_size 1)
theorem awQ_size : awQ.size = 11 := asked_size _ _ _
theorem awAsk : asked ⟨#[97, 98]⟩ 1 258 = ⟨#[2, 97, 98, 0, 0, 0, 1, 0, 0, 1, 2]⟩ := by decide +kernel
theorem awQ3_ne : awQ3 ≠ awQ := by decide +kernel
theorem awTold_is : awTape.extract 0 16 = awTold := by decide +kernel

def awO1 : Orc := ⟨1, zeros 32, Idl.fresh ⟨#[]⟩ 0⟩
def awP1 [Sha.Words] : Orc := ⟨1, zeros 32, ⟨⟨#[]⟩, 0, [(awQ, awS)], []⟩⟩
def awR1 [Sha.Words] : Orc := ⟨1, zeros 32, ⟨⟨#[]⟩, 0, [(awQ, awS)], [(awS, textOf 1, awC)]⟩⟩
def awO2 : Orc := ⟨2, zeros 32, Idl.fresh awTape 0⟩
def awP2 : Orc := ⟨2, zeros 32, ⟨awTape, 16, [(awQ, awTold)], []⟩⟩

theorem awO1_good : awO1.Good := ⟨.inl rfl, zeros_size 32, Idl.fresh_good (by decide) (by decide)⟩
theorem awO2_good : awO2.Good := ⟨.inr rfl, zeros_size 32, Idl.fresh_good (by decide) (by decide)⟩
theorem aw1 [Sha.Words] : awO1.wayL awQ = (awS, awP1.d, 0) := by
  rcases Orc.wayL_cases awO1_good awQ (by decide) (fun h => absurd h (by decide)) with ⟨s, h, _⟩ | ⟨_, s, _, hs, h⟩
  · cases h
  · rw [h, hs rfl]
    rfl
theorem awP1_good [Sha.Words] : awP1.Good := by
  have h := Orc.ask_good awO1_good (q := awQ) (by rw [awQ_size]; omega) (by decide)
  unfold Orc.ask at h
  rw [aw1] at h
  exact h
theorem aw2 [Sha.Words] : awP1.wayC awS (textOf 1) = (awC, awR1.d, 0) := by
  rcases Orc.wayC_cases awP1_good awS (textOf 1) (textOf_size 1) (by show (0 : Nat) ≠ 2000; decide) (fun h => absurd h (by show ¬ (1 : Int) = 2; decide)) with ⟨c, h, _⟩ | ⟨_, c, _, hc, h⟩
  · cases h
  · rw [h, hc rfl]
    rfl
theorem awR1_good [Sha.Words] : awR1.Good := by
  have h := Orc.put_good awP1_good (l := awS) (t := textOf 1) awS_size (textOf_size 1) (by show (0 : Nat) ≠ 2000; decide) (fun h => absurd h (by show ¬ (1 : Int) = 2; decide))
  unfold Orc.put at h
  rw [aw2] at h
  exact h
theorem aw3 [Sha.Words] : awR1.wayO awS awC = (textOf 1, 0) := by
  unfold Orc.wayO
  rw [if_pos (show awR1.m = 1 from rfl)]
  exact Seal.opens_box _ _ _ _
theorem aw4 [Sha.Words] : awO2.wayL awQ = (awTold, awP2.d, 0) := by
  unfold Orc.wayL
  rw [if_neg (by decide)]
  rw [Idl.label_new (d := awO2.d) (show ¬ awQ ∈ ([] : List ByteArray) from List.not_mem_nil) (by decide) (by decide)]
  show (awTape.extract 0 16, Idl.named _ _, (0 : Int)) = _
  unfold Idl.named
  show (awTape.extract 0 16, (⟨awTape, 16, [(awQ, awTape.extract 0 16)], []⟩ : Idl), (0 : Int)) = _
  rw [awTold_is]
  rfl
theorem awP2_good [Sha.Words] : awP2.Good := by
  have h := Orc.ask_good awO2_good (q := awQ) (by rw [awQ_size]; omega) (by decide)
  unfold Orc.ask at h
  rw [aw4] at h
  exact h
theorem aw5 [Sha.Words] : (awP2.wayL awQ3).2.2 = 12 := by
  unfold Orc.wayL
  rw [if_neg (by decide)]
  rw [Idl.label_short (d := awP2.d) (by show ¬ awQ3 ∈ [awQ]; simp [awQ3_ne]) (by decide) (by decide)]

theorem aw_label1 [Sha.Words] (W : World) (hR : Sha.RoundIn W) : Calls Tryz.prog 18 #[.agg #[.int .i64 1, .string (zeros 32), .string ⟨#[]⟩, .int .i64 0, .slice none 0 0, .slice none 0 0, .bool false], .string ⟨#[97, 98]⟩, .int .i64 0, .int .i64 0] W fun x w' =>
    ∃ na nk ca ck, x = .returned (.tuple #[.string awS, .agg #[.int .i64 1, .string (zeros 32), .string ⟨#[]⟩, .int .i64 0, .slice na 1 nk, .slice ca 0 ck, .bool false], .int .i64 0]) ∧ NmAt w' 0 (.slice na 1 nk) awP1.d.nm ∧ ClAt w' 0 (.slice ca 0 ck) awP1.d.cl ∧ Below W.heap.size W w' := by
  have h := oracleLabel_all awO1 awO1_good (.slice none 0 0) (.slice none 0 0) ⟨#[97, 98]⟩ 0 0 (by decide) (by decide) (by decide) (by decide) (fun h => absurd h (by decide)) W hR (nm_nil _ _) (cl_nil _ _)
  unfold Orc.agg Orc.ask at h
  rw [show asked ⟨#[97, 98]⟩ 0 0 = awQ from rfl, aw1] at h
  refine h.mono ?_
  rintro x w' ⟨nv, cv, rfl, h1, h2, h3⟩
  obtain ⟨na, nk, rfl⟩ := slice_of h1
  obtain ⟨ca, ck, rfl⟩ := slice_of h2
  exact ⟨na, nk, ca, ck, rfl, ownsRow_weak h1 (Nat.zero_le _), ownsRow_weak h2 (Nat.zero_le _), h3⟩

theorem aw_cell1 [Sha.Words] (W : World) (hR : Sha.RoundIn W) (nv cv : Value) (hN : NmAt W 0 nv awP1.d.nm) (hC : ClAt W 0 cv awP1.d.cl) : Calls Tryz.prog 23 #[.agg #[.int .i64 1, .string (zeros 32), .string ⟨#[]⟩, .int .i64 0, nv, cv, .bool false], .string awS, .string (textOf 1)] W fun x w' =>
    ∃ na nk ca ck, x = .returned (.tuple #[.string awC, .agg #[.int .i64 1, .string (zeros 32), .string ⟨#[]⟩, .int .i64 0, .slice na 1 nk, .slice ca 1 ck, .bool false], .int .i64 0]) ∧ NmAt w' W.heap.size (.slice na 1 nk) awR1.d.nm ∧ ClAt w' W.heap.size (.slice ca 1 ck) awR1.d.cl ∧ Below W.heap.size W w' := by
  have h := oracleCell_all awP1 awP1_good nv cv awS (textOf 1) awS_size (textOf_size 1) (by show (0 : Nat) ≠ 2000; decide) (fun h => absurd h (by show ¬ (1 : Int) = 2; decide)) W hR hN hC
  unfold Orc.agg Orc.put at h
  rw [aw2] at h
  refine h.mono ?_
  rintro x w' ⟨nv, cv, rfl, h1, h2, h3⟩
  obtain ⟨na, nk, rfl⟩ := slice_of h1
  obtain ⟨ca, ck, rfl⟩ := slice_of h2
  exact ⟨na, nk, ca, ck, rfl, h1, h2, h3⟩

theorem aw_open1 [Sha.Words] (W : World) (hR : Sha.RoundIn W) (nv cv : Value) (hN : NmAt W 0 nv awR1.d.nm) (hC : ClAt W 0 cv awR1.d.cl) : Calls Tryz.prog 25 #[.agg #[.int .i64 1, .string (zeros 32), .string ⟨#[]⟩, .int .i64 0, nv, cv, .bool false], .string awS, .string awC] W fun x w' =>
    x = .returned (.tuple #[.string (textOf 1), .int .i64 0]) ∧ Below W.heap.size W w' := by
  have h := oracleOpen_all awR1 awR1_good nv cv awS awC awS_size awC_size W hR hN hC
  rw [aw3] at h
  exact h

theorem aw_open2 [Sha.Words] (W : World) (nv cv : Value) (hN : NmAt W 0 nv awR1.d.nm) (hC : ClAt W 0 cv awR1.d.cl) : Calls Tryz.prog 25 #[.agg #[.int .i64 1, .string (zeros 32), .string ⟨#[]⟩, .int .i64 0, nv, cv, .bool false], .string awS, .string ⟨#[120]⟩] W fun x w' =>
    x = .returned (.tuple #[.string ⟨#[]⟩, .int .i64 11]) ∧ Below W.heap.size W w' :=
  oracleOpen_real_odd awR1 awR1_good rfl nv cv awS ⟨#[120]⟩ awS_size (by decide) W hN hC

theorem aw_label2 [Sha.Words] (W : World) (hR : Sha.RoundIn W) : Calls Tryz.prog 18 #[.agg #[.int .i64 2, .string (zeros 32), .string awTape, .int .i64 0, .slice none 0 0, .slice none 0 0, .bool false], .string ⟨#[97, 98]⟩, .int .i64 0, .int .i64 0] W fun x w' =>
    ∃ na nk ca ck, x = .returned (.tuple #[.string awTold, .agg #[.int .i64 2, .string (zeros 32), .string awTape, .int .i64 16, .slice na 1 nk, .slice ca 0 ck, .bool false], .int .i64 0]) ∧ NmAt w' 0 (.slice na 1 nk) awP2.d.nm ∧ ClAt w' 0 (.slice ca 0 ck) awP2.d.cl ∧ Below W.heap.size W w' := by
  have h := oracleLabel_all awO2 awO2_good (.slice none 0 0) (.slice none 0 0) ⟨#[97, 98]⟩ 0 0 (by decide) (by decide) (by decide) (by decide) (fun _ => by decide) W hR (nm_nil _ _) (cl_nil _ _)
  unfold Orc.agg Orc.ask at h
  rw [show asked ⟨#[97, 98]⟩ 0 0 = awQ from rfl, aw4] at h
  refine h.mono ?_
  rintro x w' ⟨nv, cv, rfl, h1, h2, h3⟩
  obtain ⟨na, nk, rfl⟩ := slice_of h1
  obtain ⟨ca, ck, rfl⟩ := slice_of h2
  exact ⟨na, nk, ca, ck, rfl, ownsRow_weak h1 (Nat.zero_le _), ownsRow_weak h2 (Nat.zero_le _), h3⟩

theorem aw_label3 [Sha.Words] (W : World) (nv cv : Value) (hN : NmAt W 0 nv awP2.d.nm) (hC : ClAt W 0 cv awP2.d.cl) : Calls Tryz.prog 18 #[.agg #[.int .i64 2, .string (zeros 32), .string awTape, .int .i64 16, nv, cv, .bool false], .string ⟨#[97, 98, 99]⟩, .int .i64 0, .int .i64 0] W fun x w' =>
    ∃ na nk ca ck, x = .returned (.tuple #[.string ⟨#[]⟩, .agg #[.int .i64 2, .string (zeros 32), .string awTape, .int .i64 16, .slice na 1 nk, .slice ca 0 ck, .bool false], .int .i64 12]) ∧ Below W.heap.size W w' := by
  have h := oracleLabel_drawn_err awP2 awP2_good rfl nv cv ⟨#[97, 98, 99]⟩ 0 0 (by decide) (by decide) (by decide) (by decide) aw5 W hN hC
  refine h.mono ?_
  rintro x w' ⟨nv, cv, rfl, h1, h2, h3⟩
  obtain ⟨na, nk, rfl⟩ := slice_of h1
  obtain ⟨ca, ck, rfl⟩ := slice_of h2
  exact ⟨na, nk, ca, ck, rfl, h3⟩

theorem aw_right1 [Sha.Words] (W : World) : Calls Tryz.prog 20 #[.agg #[.int .i64 1, .string (zeros 32), .string ⟨#[]⟩, .int .i64 0, .slice none 0 0, .slice none 0 0, .bool false]] W fun e w' => e = .returned (.bool true) ∧ Below W.heap.size W w' :=
  oracleRight_all awO1 awO1_good (.slice none 0 0) (.slice none 0 0) W (nm_nil _ _) (cl_nil _ _)
theorem aw_new1 (W : World) : Calls Tryz.prog 12 #[.int .i64 1, .string (zeros 32), .agg #[.string ⟨#[]⟩, .int .i64 0]] W fun e w' => e = .returned (.tuple #[.agg #[.int .i64 1, .string (zeros 32), .string ⟨#[]⟩, .int .i64 0, .slice none 0 0, .slice none 0 0, .bool false], .int .i64 0]) ∧ Below W.heap.size W w' :=
  oracleNew_any 1 (.inl rfl) (zeros 32) (zeros_size 32) ⟨#[]⟩ 0 (by decide) (by decide) W
theorem aw_new2 (W : World) : Calls Tryz.prog 12 #[.int .i64 2, .string (zeros 32), .agg #[.string awTape, .int .i64 0]] W fun e w' => e = .returned (.tuple #[.agg #[.int .i64 2, .string (zeros 32), .string awTape, .int .i64 0, .slice none 0 0, .slice none 0 0, .bool false], .int .i64 0]) ∧ Below W.heap.size W w' :=
  oracleNew_any 2 (.inr rfl) (zeros 32) (zeros_size 32) awTape 0 (by decide) (by decide) W

end Go.Proofs.YtjnolopnkecmdaaGreat

/-
  law09's awake: the walk.
-/
namespace Go.Proofs.YtjnolopnkecmdaaGreat
open Go.RowKit

/-- What awake holds ahead of its cell. -/
structure Aw7 [Sha.Words] (w : World) (key : ByteArray) (g6 g11 g14 : Nat) (V11 V14 : Array Value) (n1 c1 n2 c2 : Value) (x : World) : Prop where
  p6 : Row x g6 31 #[.int .i64 1, .string key, .string ⟨#[]⟩, .int .i64 0, .slice none 0 0, .slice none 0 0, .bool false]
  p11 : Row x g11 31 V11
  p14 : Row x g14 31 V14
  n1 : NmAt x 0 n1 awP1.d.nm
  c1 : ClAt x 0 c1 awP1.d.cl
  n2 : NmAt x 0 n2 awP2.d.nm
  c2 : ClAt x 0 c2 awP2.d.cl
  b : Below w.heap.size w x
theorem Aw7.below [Sha.Words] {w : World} {key : ByteArray} {g6 g11 g14 : Nat} {V11 V14 : Array Value} {n1 c1 n2 c2 : Value} {x y : World} (h : Aw7 w key g6 g11 g14 V11 V14 n1 c1 n2 c2 x) (hb : Below x.heap.size x y) : Aw7 w key g6 g11 g14 V11 V14 n1 c1 n2 c2 y :=
  ⟨h.p6.below hb h.p6.lt, h.p11.below hb h.p11.lt, h.p14.below hb h.p14.lt, owns_below h.n1 hb, owns_below h.c1 hb, owns_below h.n2 hb, owns_below h.c2 hb, h.b.trans (hb.mono h.b.size)⟩
/-- Where awake stands behind its cell. -/
def Aw8 [Sha.Words] (w : World) (key : ByteArray) (g6 g11 g14 : Nat) (V11 V14 : Array Value) (n1 c1 n2 c2 : Value) (v17 : Value) (wx : World) : Prop :=
  ∃ g n3 m3 c3 k3, v17 = .pointer (some ⟨g, 0, none⟩) ∧ Row wx g 31 #[.int .i64 1, .string key, .string ⟨#[]⟩, .int .i64 0, .slice n3 1 m3, .slice c3 1 k3, .bool false] ∧ NmAt wx 0 (.slice n3 1 m3) awR1.d.nm ∧ ClAt wx 0 (.slice c3 1 k3) awR1.d.cl ∧ Aw7 w key g6 g11 g14 V11 V14 n1 c1 n2 c2 wx

theorem aw8_alloc [Sha.Words] {w WA w8 : World} {key : ByteArray} {g6 g11 g14 : Nat} {V11 V14 : Array Value} {n1 c1 n2 c2 : Value} {n3 c3 : Option Addr} {m3 k3 C : Nat} (hA : Aw7 w key g6 g11 g14 V11 V14 n1 c1 n2 c2 WA) (hb : Below WA.heap.size WA w8)
    (hn : NmAt w8 C (.slice n3 1 m3) awR1.d.nm) (hc : ClAt w8 C (.slice c3 1 k3) awR1.d.cl) : Aw8 w key g6 g11 g14 V11 V14 n1 c1 n2 c2 (.pointer (some ⟨w8.heap.size, 0, none⟩)) (w8.alloc (.cells #[.int .i64 1, .string key, .string ⟨#[]⟩, .int .i64 0, .slice n3 1 m3, .slice c3 1 k3, .bool false] 31)) := by
  have hba : Below w8.heap.size w8 (w8.alloc (.cells #[.int .i64 1, .string key, .string ⟨#[]⟩, .int .i64 0, .slice n3 1 m3, .slice c3 1 k3, .bool false] 31)) := (Below.refl _ w8).alloc (Nat.le_refl _) _
  exact ⟨w8.heap.size, n3, m3, c3, k3, rfl, Row.new w8 _ _, ownsRow_weak (owns_below hn hba) (Nat.zero_le _), ownsRow_weak (owns_below hc hba) (Nat.zero_le _), hA.below (hb.trans (hba.mono hb.size))⟩
theorem aw8_store [Sha.Words] {w WA w8 : World} {key : ByteArray} {g6 g11 g14 g : Nat} {V11 V14 : Array Value} {n1 c1 n2 c2 : Value} {n3 c3 : Option Addr} {m3 k3 C : Nat} (hA : Aw7 w key g6 g11 g14 V11 V14 n1 c1 n2 c2 WA) (hb : Below WA.heap.size WA w8) (h3 : WA.heap.size ≤ g) (hC : g < C)
    (g8 : Row w8 g 31 #[.int .i64 0, .string ⟨#[]⟩, .string ⟨#[]⟩, .int .i64 0, .slice none 0 0, .slice none 0 0, .bool false]) (hn : NmAt w8 C (.slice n3 1 m3) awR1.d.nm) (hc : ClAt w8 C (.slice c3 1 k3) awR1.d.cl) :
    Aw8 w key g6 g11 g14 V11 V14 n1 c1 n2 c2 (.pointer (some ⟨g, 0, none⟩)) (((((((w8.setCell ⟨g, 0, none⟩ (.int .i64 1)).setCell ⟨g, 1, none⟩ (.string key)).setCell ⟨g, 2, none⟩ (.string ⟨#[]⟩)).setCell ⟨g, 3, none⟩ (.int .i64 0)).setCell ⟨g, 4, none⟩ (.slice n3 1 m3)).setCell ⟨g, 5, none⟩ (.slice c3 1 k3)).setCell ⟨g, 6, none⟩ (.bool false)) := by
  refine ⟨g, n3, m3, c3, k3, rfl, ((((((g8.store 0 _).store 1 _).store 2 _).store 3 _).store 4 _).store 5 _).store 6 _, ?_, ?_, ?_⟩
  · exact ownsRow_weak (ownsRow_setCell_below (a := ⟨g, 6, none⟩) (ownsRow_setCell_below (a := ⟨g, 5, none⟩) (ownsRow_setCell_below (a := ⟨g, 4, none⟩) (ownsRow_setCell_below (a := ⟨g, 3, none⟩) (ownsRow_setCell_below (a := ⟨g, 2, none⟩) (ownsRow_setCell_below (a := ⟨g, 1, none⟩) (ownsRow_setCell_below (a := ⟨g, 0, none⟩) hn hC _) hC _) hC _) hC _) hC _) hC _) hC _) (Nat.zero_le _)
  · exact ownsRow_weak (ownsRow_setCell_below (a := ⟨g, 6, none⟩) (ownsRow_setCell_below (a := ⟨g, 5, none⟩) (ownsRow_setCell_below (a := ⟨g, 4, none⟩) (ownsRow_setCell_below (a := ⟨g, 3, none⟩) (ownsRow_setCell_below (a := ⟨g, 2, none⟩) (ownsRow_setCell_below (a := ⟨g, 1, none⟩) (ownsRow_setCell_below (a := ⟨g, 0, none⟩) hc hC _) hC _) hC _) hC _) hC _) hC _) hC _) (Nat.zero_le _)
  · exact hA.below (((((((hb.setCell (p := ⟨g, 0, none⟩) h3 _).setCell (p := ⟨g, 1, none⟩) h3 _).setCell (p := ⟨g, 2, none⟩) h3 _).setCell (p := ⟨g, 3, none⟩) h3 _).setCell (p := ⟨g, 4, none⟩) h3 _).setCell (p := ⟨g, 5, none⟩) h3 _).setCell (p := ⟨g, 6, none⟩) h3 _)

set_option maxRecDepth 100000 in
set_option maxHeartbeats 4000000 in
theorem awake9_any [Sha.Words] (w : World) (hR : Sha.RoundIn w) : Calls Tryz.prog 9 #[] w fun e w' => e = .returned (.bool true) ∧ Below w.heap.size w w' := by
  have hmk : ∀ W, (Instr.makeSlice 63 (.int .i64 32) (.int .i64 32)).run Tryz.prog W = .ok (.slice (some ⟨W.heap.size, 0, none⟩) 32 32) (W.alloc (.cells (zeroCells 32) 5)) := fun W => make_zero 32 (by decide) W
  have hcv : (convert 63 9 (.slice (some ⟨w.heap.size, 0, none⟩) 32 32)).run Tryz.prog (w.alloc (.cells (zeroCells 32) 5)) = .ok (.string (zeros 32)) (w.alloc (.cells (zeroCells 32) 5)) := conv_zero _ _ _ (Row.new w _ _)
  have hb0 : Below w.heap.size w (w.alloc (.cells (zeroCells 32) 5)) := (Below.refl _ w).alloc (Nat.le_refl _) _
  have hA1 := fun W => Ask_ok ⟨#[97, 98]⟩ 1 258 (by decide) (by decide) (by decide) W
  rw [awAsk] at hA1
  have hA2 := fun W => Ask_bad ⟨#[97, 98]⟩ (-1) 0 (by decide) rfl rfl W
  have hN1 := aw_new1
  have hN2 := aw_new2
  have hL1 := aw_label1
  have hL2 := aw_label2
  have hT := fun W => Text_any 1 (by decide) W
  rw [show (pickOf 1 5).toNat = 1 from by decide] at hT
  have hC := aw_cell1
  have hO1 := aw_open1
  have hO2 := aw_open2
  have hL3 := aw_label3
  have hRt := aw_right1
  have hs1 : (awS.size : Int) = 16 := by rw [awS_size]; rfl
  have hs2 : (awC.size : Int) = 40 := by rw [awC_size]; rfl
  unfold awTold at hL2
  unfold awTape at hN2 hL2 hL3
  generalize textOf 1 = tx at hT hC hO1
  generalize zeros 32 = key at *
  generalize awS = s at *
  generalize awC = c at *

  have HR := Lib.hid hR
  have HA1 := Lib.hid hA1
  have HA2 := Lib.hid hA2
  have HN1 := Lib.hid hN1
  have HN2 := Lib.hid hN2
  have HL1 := Lib.hid hL1
  have HL2 := Lib.hid hL2
  have HT := Lib.hid hT
  have HC := Lib.hid hC
  have HO1 := Lib.hid hO1
  have HO2 := Lib.hid hO2
  have HL3 := Lib.hid hL3
  have HRt := Lib.hid hRt
  clear hR hA1 hA2 hN1 hN2 hL1 hL2 hT hC hO1 hO2 hL3 hRt
  go_enter Tryz.func9, Tryz.ntmps9
  go_wp2_with fail
  refine (HA1.out _).mono ?_
  rintro x w1 ⟨rfl, hb1⟩
  have Hb1 := Lib.hid (below_seq hb0 hb1)
  clear hb1 hb0 HA1
  go_wp2_with fail
  refine (HA2.out _).mono ?_
  rintro x w2 ⟨rfl, hb2⟩
  have Hb2 := Lib.hid (below_seq Hb1.out hb2)
  clear hb2 Hb1 HA2 hmk hcv
  go_wp2_with fail
  refine (HN1.out _).mono ?_
  rintro x w3 ⟨rfl, hb3⟩
  have hb03 := below_seq Hb2.out hb3
  have HbA := Lib.hid (hb03.alloc hb03.size (.cells #[.int .i64 1, .string key, .string ⟨#[]⟩, .int .i64 0, .slice none 0 0, .slice none 0 0, .bool false] 31))
  have p6 := Row.new w3 31 #[.int .i64 1, .string key, .string ⟨#[]⟩, .int .i64 0, .slice none 0 0, .slice none 0 0, .bool false]
  have Hp6 := Lib.hid p6
  clear hb3 hb03 Hb2 HN1 p6
  go_wp2_with fail
  refine (HN2.out _).mono ?_
  rintro x w4 ⟨rfl, hb4⟩
  have p6 := Hp6.out.below hb4 Hp6.out.lt
  have hb04 := below_seq HbA.out hb4
  have HbB := Lib.hid (hb04.alloc hb04.size (.cells #[.int .i64 2, .string key, .string ⟨#[97, 98, 99, 100, 101, 102, 103, 104, 105, 106, 107, 108, 109, 110, 111, 112, 113]⟩, .int .i64 0, .slice none 0 0, .slice none 0 0, .bool false] 31))
  have Hp6b := Lib.hid (p6.alloc (.cells #[.int .i64 2, .string key, .string ⟨#[97, 98, 99, 100, 101, 102, 103, 104, 105, 106, 107, 108, 109, 110, 111, 112, 113]⟩, .int .i64 0, .slice none 0 0, .slice none 0 0, .bool false] 31))
  have Hp8 := Lib.hid (Row.new w4 31 #[.int .i64 2, .string key, .string ⟨#[97, 98, 99, 100, 101, 102, 103, 104, 105, 106, 107, 108, 109, 110, 111, 112, 113]⟩, .int .i64 0, .slice none 0 0, .slice none 0 0, .bool false])
  have hlt : w3.heap.size < w4.heap.size := p6.lt
  have hne : w3.heap.size ≠ w4.heap.size := by omega
  have z0 : w4.cell? ⟨w3.heap.size, 0, none⟩ = some (.int .i64 1) := p6.cell 0
  have z1 : w4.cell? ⟨w3.heap.size, 1, none⟩ = some (.string key) := p6.cell 1
  have z2 : w4.cell? ⟨w3.heap.size, 2, none⟩ = some (.string ⟨#[]⟩) := p6.cell 2
  have z3 : w4.cell? ⟨w3.heap.size, 3, none⟩ = some (.int .i64 0) := p6.cell 3
  have z4 : w4.cell? ⟨w3.heap.size, 4, none⟩ = some (.slice none 0 0) := p6.cell 4
  have z5 : w4.cell? ⟨w3.heap.size, 5, none⟩ = some (.slice none 0 0) := p6.cell 5
  have z6 : w4.cell? ⟨w3.heap.size, 6, none⟩ = some (.bool false) := p6.cell 6
  clear Hp6 hb4 hb04 HbA HN2 p6
  go_wp2_with fail
  refine (HL1.out _ (HR.out.below HbB.out)).mono ?_
  rintro x w5 ⟨n1, m1, c1, k1, rfl, hn1, hc1, hb5⟩
  have p6 := Hp6b.out.below hb5 Hp6b.out.lt
  have p8 := Hp8.out.below hb5 Hp8.out.lt
  have hb05 := below_seq HbB.out hb5
  clear z0 z1 z2 z3 z4 z5 z6 hlt hne
  have HbC := Lib.hid (hb05.alloc hb05.size (.cells #[.int .i64 1, .string key, .string ⟨#[]⟩, .int .i64 0, .slice n1 1 m1, .slice c1 0 k1, .bool false] 31))
  have Hp6c := Lib.hid (p6.alloc (.cells #[.int .i64 1, .string key, .string ⟨#[]⟩, .int .i64 0, .slice n1 1 m1, .slice c1 0 k1, .bool false] 31))
  have Hp8c := Lib.hid (p8.alloc (.cells #[.int .i64 1, .string key, .string ⟨#[]⟩, .int .i64 0, .slice n1 1 m1, .slice c1 0 k1, .bool false] 31))
  have Hp11 := Lib.hid (Row.new w5 31 #[.int .i64 1, .string key, .string ⟨#[]⟩, .int .i64 0, .slice n1 1 m1, .slice c1 0 k1, .bool false])
  have Hn1 := Lib.hid (owns_below hn1 ((Below.refl w5.heap.size w5).alloc (Nat.le_refl _) (.cells #[.int .i64 1, .string key, .string ⟨#[]⟩, .int .i64 0, .slice n1 1 m1, .slice c1 0 k1, .bool false] 31)))
  have Hc1 := Lib.hid (owns_below hc1 ((Below.refl w5.heap.size w5).alloc (Nat.le_refl _) (.cells #[.int .i64 1, .string key, .string ⟨#[]⟩, .int .i64 0, .slice n1 1 m1, .slice c1 0 k1, .bool false] 31)))
  have hlt : w4.heap.size < w5.heap.size := p8.lt
  have hne : w4.heap.size ≠ w5.heap.size := by omega
  have z0 : w5.cell? ⟨w4.heap.size, 0, none⟩ = some (.int .i64 2) := p8.cell 0
  have z1 : w5.cell? ⟨w4.heap.size, 1, none⟩ = some (.string key) := p8.cell 1
  have z2 : w5.cell? ⟨w4.heap.size, 2, none⟩ = some (.string ⟨#[97, 98, 99, 100, 101, 102, 103, 104, 105, 106, 107, 108, 109, 110, 111, 112, 113]⟩) := p8.cell 2
  have z3 : w5.cell? ⟨w4.heap.size, 3, none⟩ = some (.int .i64 0) := p8.cell 3
  have z4 : w5.cell? ⟨w4.heap.size, 4, none⟩ = some (.slice none 0 0) := p8.cell 4
  have z5 : w5.cell? ⟨w4.heap.size, 5, none⟩ = some (.slice none 0 0) := p8.cell 5
  have z6 : w5.cell? ⟨w4.heap.size, 6, none⟩ = some (.bool false) := p8.cell 6
  clear Hp6b Hp8 hb5 hb05 HbB HL1 p6 p8 hn1 hc1
  go_wp2_with fail
  refine (HL2.out _ (HR.out.below HbC.out)).mono ?_
  rintro x w6 ⟨n2, m2, c2, k2, rfl, hn2, hc2, hb6⟩
  have p6 := Hp6c.out.below hb6 Hp6c.out.lt
  have p11 := Hp11.out.below hb6 Hp11.out.lt
  have hn1 := owns_below Hn1.out hb6
  have hc1 := owns_below Hc1.out hb6
  have hb06 := below_seq HbC.out hb6
  clear z0 z1 z2 z3 z4 z5 z6 hlt hne
  clear Hp6c Hp8c Hp11 Hn1 Hc1 HbC HL2 hb6
  have hb6 := hb06.alloc hb06.size (.cells #[.int .i64 2, .string key, .string ⟨#[97, 98, 99, 100, 101, 102, 103, 104, 105, 106, 107, 108, 109, 110, 111, 112, 113]⟩, .int .i64 16, .slice n2 1 m2, .slice c2 0 k2, .bool false] 31)
  have p14 := Row.new w6 31 #[.int .i64 2, .string key, .string ⟨#[97, 98, 99, 100, 101, 102, 103, 104, 105, 106, 107, 108, 109, 110, 111, 112, 113]⟩, .int .i64 16, .slice n2 1 m2, .slice c2 0 k2, .bool false]
  have hal := (Below.refl w6.heap.size w6).alloc (Nat.le_refl _) (.cells #[.int .i64 2, .string key, .string ⟨#[97, 98, 99, 100, 101, 102, 103, 104, 105, 106, 107, 108, 109, 110, 111, 112, 113]⟩, .int .i64 16, .slice n2 1 m2, .slice c2 0 k2, .bool false] 31)
  have q6 := p6.alloc (.cells #[.int .i64 2, .string key, .string ⟨#[97, 98, 99, 100, 101, 102, 103, 104, 105, 106, 107, 108, 109, 110, 111, 112, 113]⟩, .int .i64 16, .slice n2 1 m2, .slice c2 0 k2, .bool false] 31)
  have q11 := p11.alloc (.cells #[.int .i64 2, .string key, .string ⟨#[97, 98, 99, 100, 101, 102, 103, 104, 105, 106, 107, 108, 109, 110, 111, 112, 113]⟩, .int .i64 16, .slice n2 1 m2, .slice c2 0 k2, .bool false] 31)
  have hn1a := owns_below hn1 hal
  have hc1a := owns_below hc1 hal
  have hn2a := owns_below hn2 hal
  have hc2a := owns_below hc2 hal
  have hlt5 : w5.heap.size < w6.heap.size := p11.lt
  have hsz := World.size_alloc w6 (.cells #[.int .i64 2, .string key, .string ⟨#[97, 98, 99, 100, 101, 102, 103, 104, 105, 106, 107, 108, 109, 110, 111, 112, 113]⟩, .int .i64 16, .slice n2 1 m2, .slice c2 0 k2, .bool false] 31)
  go_upto_region 8 with fail
  clear hal p6 p11 hn1 hc1 hn2 hc2 hb06
  generalize w6.alloc (.cells #[.int .i64 2, .string key, .string ⟨#[97, 98, 99, 100, 101, 102, 103, 104, 105, 106, 107, 108, 109, 110, 111, 112, 113]⟩, .int .i64 16, .slice n2 1 m2, .slice c2 0 k2, .bool false] 31) = WA at *
  have HA : Hid (Aw7 w key w3.heap.size w5.heap.size w6.heap.size #[.int .i64 1, .string key, .string ⟨#[]⟩, .int .i64 0, .slice n1 1 m1, .slice c1 0 k1, .bool false] #[.int .i64 2, .string key, .string ⟨#[97, 98, 99, 100, 101, 102, 103, 104, 105, 106, 107, 108, 109, 110, 111, 112, 113]⟩, .int .i64 16, .slice n2 1 m2, .slice c2 0 k2, .bool false] (.slice n1 1 m1) (.slice c1 0 k1) (.slice n2 1 m2) (.slice c2 0 k2) WA) := Lib.hid ⟨q6, q11, p14, hn1a, hc1a, hn2a, hc2a, hb6⟩
  have z0 : WA.cell? ⟨w5.heap.size, 0, none⟩ = some (.int .i64 1) := q11.cell 0
  have z1 : WA.cell? ⟨w5.heap.size, 1, none⟩ = some (.string key) := q11.cell 1
  have z2 : WA.cell? ⟨w5.heap.size, 2, none⟩ = some (.string ⟨#[]⟩) := q11.cell 2
  have z3 : WA.cell? ⟨w5.heap.size, 3, none⟩ = some (.int .i64 0) := q11.cell 3
  have z4 : WA.cell? ⟨w5.heap.size, 4, none⟩ = some (.slice n1 1 m1) := q11.cell 4
  have z5 : WA.cell? ⟨w5.heap.size, 5, none⟩ = some (.slice c1 0 k1) := q11.cell 5
  have z6 : WA.cell? ⟨w5.heap.size, 6, none⟩ = some (.bool false) := q11.cell 6
  have u1 : w5.heap.size < WA.heap.size := by omega
  have u2 : w5.heap.size ≠ WA.heap.size := by omega
  clear q6 q11 p14 hn1a hc1a hn2a hc2a hb6 hsz hlt5
  have hbA : Below WA.heap.size WA WA.drew := (Below.refl _ WA).drew
  have hbB : Below WA.heap.size WA (WA.drew.alloc (.cells #[.int .i64 0, .string ⟨#[]⟩, .string ⟨#[]⟩, .int .i64 0, .slice none 0 0, .slice none 0 0, .bool false] 31)) := hbA.alloc (Nat.le_refl _) _
  have gB : Row (WA.drew.alloc (.cells #[.int .i64 0, .string ⟨#[]⟩, .string ⟨#[]⟩, .int .i64 0, .slice none 0 0, .slice none 0 0, .bool false] 31)) WA.heap.size 31 #[.int .i64 0, .string ⟨#[]⟩, .string ⟨#[]⟩, .int .i64 0, .slice none 0 0, .slice none 0 0, .bool false] := Row.new WA.drew _ _
  go_cut [16, 17, 18] from 61 to 67 (fun v16 v17 v18 wx => v16 = .string c ∧ v18 = .int .i64 0 ∧ Aw8 w key w3.heap.size w5.heap.size w6.heap.size #[.int .i64 1, .string key, .string ⟨#[]⟩, .int .i64 0, .slice n1 1 m1, .slice c1 0 k1, .bool false] #[.int .i64 2, .string key, .string ⟨#[97, 98, 99, 100, 101, 102, 103, 104, 105, 106, 107, 108, 109, 110, 111, 112, 113]⟩, .int .i64 16, .slice n2 1 m2, .slice c2 0 k2, .bool false] (.slice n1 1 m1) (.slice c1 0 k1) (.slice n2 1 m2) (.slice c2 0 k2) v17 wx)
  case first =>
    have hmix : Tryz.prog.follows .mixedOrders = true := by kernel_rfl
    go_region_with (first
      | (go_at_call 22
         refine (HT.out _).mono ?_; rintro x w7 ⟨rfl, hb7⟩
         first
           | (have hb07 : Below WA.heap.size WA w7 := hbA.trans (hb7.mono hbA.size)
              have k7 := HA.out.below hb07)
           | (have hb07 : Below WA.heap.size WA w7 := hbB.trans (hb7.mono hbB.size)
              have k7 := HA.out.below hb07
              have g7 := gB.below hb7 gB.lt)
         have y0 : w7.cell? ⟨w5.heap.size, 0, none⟩ = some (.int .i64 1) := k7.p11.cell 0
         have y1 : w7.cell? ⟨w5.heap.size, 1, none⟩ = some (.string key) := k7.p11.cell 1
         have y2 : w7.cell? ⟨w5.heap.size, 2, none⟩ = some (.string ⟨#[]⟩) := k7.p11.cell 2
         have y3 : w7.cell? ⟨w5.heap.size, 3, none⟩ = some (.int .i64 0) := k7.p11.cell 3
         have y4 : w7.cell? ⟨w5.heap.size, 4, none⟩ = some (.slice n1 1 m1) := k7.p11.cell 4
         have y5 : w7.cell? ⟨w5.heap.size, 5, none⟩ = some (.slice c1 0 k1) := k7.p11.cell 5
         have y6 : w7.cell? ⟨w5.heap.size, 6, none⟩ = some (.bool false) := k7.p11.cell 6
         have x1 : w5.heap.size < w7.heap.size := k7.p11.lt
         have x2 : w5.heap.size ≠ w7.heap.size := by omega)
      | (go_at_call 23
         first
           | (refine (HC.out w7 (HR.out.below k7.b) _ _ k7.n1 k7.c1).mono ?_; rintro x w8 ⟨n3, m3, c3, k3, rfl, hn3, hc3, hb8⟩
              have hb08 := hb07.trans (hb8.mono hb07.size)
              first
                | (have g8 := g7.below hb8 g7.lt
                   have hgl : WA.heap.size < w8.heap.size := g8.lt
                   have hgl3 : WA.heap.size < w7.heap.size := g7.lt
                   have z0 : w8.cell? ⟨WA.heap.size, 0, none⟩ = some (.int .i64 0) := g8.cell 0
                   have z1 : w8.cell? ⟨WA.heap.size, 1, none⟩ = some (.string ⟨#[]⟩) := g8.cell 1
                   have z2 : w8.cell? ⟨WA.heap.size, 2, none⟩ = some (.string ⟨#[]⟩) := g8.cell 2
                   have z3 : w8.cell? ⟨WA.heap.size, 3, none⟩ = some (.int .i64 0) := g8.cell 3
                   have z4 : w8.cell? ⟨WA.heap.size, 4, none⟩ = some (.slice none 0 0) := g8.cell 4
                   have z5 : w8.cell? ⟨WA.heap.size, 5, none⟩ = some (.slice none 0 0) := g8.cell 5
                   have z6 : w8.cell? ⟨WA.heap.size, 6, none⟩ = some (.bool false) := g8.cell 6
                   have zf0 := g8.frozen 0
                   have zf1 := g8.frozen 1
                   have zf2 := g8.frozen 2
                   have zf3 := g8.frozen 3
                   have zf4 := g8.frozen 4
                   have zf5 := g8.frozen 5
                   have zf6 := g8.frozen 6)
                | skip)
           | (have hb7a := hb07.alloc hb07.size (.cells #[.int .i64 0, .string ⟨#[]⟩, .string ⟨#[]⟩, .int .i64 0, .slice none 0 0, .slice none 0 0, .bool false] 31)
              have k7a := HA.out.below hb7a
              have gg : Row (w7.alloc (.cells #[.int .i64 0, .string ⟨#[]⟩, .string ⟨#[]⟩, .int .i64 0, .slice none 0 0, .slice none 0 0, .bool false] 31)) w7.heap.size 31 #[.int .i64 0, .string ⟨#[]⟩, .string ⟨#[]⟩, .int .i64 0, .slice none 0 0, .slice none 0 0, .bool false] := Row.new w7 _ _
              refine (HC.out (w7.alloc (.cells #[.int .i64 0, .string ⟨#[]⟩, .string ⟨#[]⟩, .int .i64 0, .slice none 0 0, .slice none 0 0, .bool false] 31)) (HR.out.below k7a.b) _ _ k7a.n1 k7a.c1).mono ?_; rintro x w8 ⟨n3, m3, c3, k3, rfl, hn3, hc3, hb8⟩
              have hb08 := hb7a.trans (hb8.mono hb7a.size)
              have g9 := gg.below hb8 gg.lt
              have hgl : w7.heap.size < w8.heap.size := g9.lt
              have z0 : w8.cell? ⟨w7.heap.size, 0, none⟩ = some (.int .i64 0) := g9.cell 0
              have z1 : w8.cell? ⟨w7.heap.size, 1, none⟩ = some (.string ⟨#[]⟩) := g9.cell 1
              have z2 : w8.cell? ⟨w7.heap.size, 2, none⟩ = some (.string ⟨#[]⟩) := g9.cell 2
              have z3 : w8.cell? ⟨w7.heap.size, 3, none⟩ = some (.int .i64 0) := g9.cell 3
              have z4 : w8.cell? ⟨w7.heap.size, 4, none⟩ = some (.slice none 0 0) := g9.cell 4
              have z5 : w8.cell? ⟨w7.heap.size, 5, none⟩ = some (.slice none 0 0) := g9.cell 5
              have z6 : w8.cell? ⟨w7.heap.size, 6, none⟩ = some (.bool false) := g9.cell 6
              have zf0 := g9.frozen 0
              have zf1 := g9.frozen 1
              have zf2 := g9.frozen 2
              have zf3 := g9.frozen 3
              have zf4 := g9.frozen 4
              have zf5 := g9.frozen 5
              have zf6 := g9.frozen 6)))
    all_goals
      go_wp2
      go_meet
      refine ⟨rfl, rfl, ?_⟩
      first
        | (have h := g8; exact aw8_store HA.out hb08 (Nat.le_refl _) hgl3 h hn3 hc3)
        | (have h := g9; exact aw8_store HA.out hb08 hb07.size gg.lt h hn3 hc3)
        | exact aw8_alloc HA.out hb08 hn3 hc3
  case rest =>
    obtain ⟨rfl, rfl, g, n3, m3, c3, k3, rfl, p17, hn3, hc3, hA⟩ := hcut
    clear hbA hbB gB u1 u2 z0 z1 z2 z3 z4 z5 z6 HA HC
    have z0 : wc.cell? ⟨g, 0, none⟩ = some (.int .i64 1) := p17.cell 0
    have z1 : wc.cell? ⟨g, 1, none⟩ = some (.string key) := p17.cell 1
    have z2 : wc.cell? ⟨g, 2, none⟩ = some (.string ⟨#[]⟩) := p17.cell 2
    have z3 : wc.cell? ⟨g, 3, none⟩ = some (.int .i64 0) := p17.cell 3
    have z4 : wc.cell? ⟨g, 4, none⟩ = some (.slice n3 1 m3) := p17.cell 4
    have z5 : wc.cell? ⟨g, 5, none⟩ = some (.slice c3 1 k3) := p17.cell 5
    have z6 : wc.cell? ⟨g, 6, none⟩ = some (.bool false) := p17.cell 6
    have Hp := Lib.hid p17
    have Hn := Lib.hid hn3
    have Hc := Lib.hid hc3
    have HA := Lib.hid hA
    clear p17 hn3 hc3 hA
    go_wp2_with fail
    refine (HO1.out _ (HR.out.below HA.out.b) _ _ Hn.out Hc.out).mono ?_
    rintro x w9 ⟨rfl, hb9⟩
    have p9 := Hp.out.below hb9 Hp.out.lt
    have Hn9 := Lib.hid (owns_below Hn.out hb9)
    have Hc9 := Lib.hid (owns_below Hc.out hb9)
    have HA9 := Lib.hid (HA.out.below hb9)
    clear z0 z1 z2 z3 z4 z5 z6 hb9 Hp Hn Hc HA HO1
    have z0 : w9.cell? ⟨g, 0, none⟩ = some (.int .i64 1) := p9.cell 0
    have z1 : w9.cell? ⟨g, 1, none⟩ = some (.string key) := p9.cell 1
    have z2 : w9.cell? ⟨g, 2, none⟩ = some (.string ⟨#[]⟩) := p9.cell 2
    have z3 : w9.cell? ⟨g, 3, none⟩ = some (.int .i64 0) := p9.cell 3
    have z4 : w9.cell? ⟨g, 4, none⟩ = some (.slice n3 1 m3) := p9.cell 4
    have z5 : w9.cell? ⟨g, 5, none⟩ = some (.slice c3 1 k3) := p9.cell 5
    have z6 : w9.cell? ⟨g, 6, none⟩ = some (.bool false) := p9.cell 6
    clear p9
    go_wp2_with fail
    refine (HO2.out _ _ _ Hn9.out Hc9.out).mono ?_
    rintro x w10 ⟨rfl, hb10⟩
    have hA10 := HA9.out.below hb10
    clear z0 z1 z2 z3 z4 z5 z6 hb10 Hn9 Hc9 HA9 HO2
    have z0 : w10.cell? ⟨w6.heap.size, 0, none⟩ = some (.int .i64 2) := hA10.p14.cell 0
    have z1 : w10.cell? ⟨w6.heap.size, 1, none⟩ = some (.string key) := hA10.p14.cell 1
    have z2 : w10.cell? ⟨w6.heap.size, 2, none⟩ = some (.string ⟨#[97, 98, 99, 100, 101, 102, 103, 104, 105, 106, 107, 108, 109, 110, 111, 112, 113]⟩) := hA10.p14.cell 2
    have z3 : w10.cell? ⟨w6.heap.size, 3, none⟩ = some (.int .i64 16) := hA10.p14.cell 3
    have z4 : w10.cell? ⟨w6.heap.size, 4, none⟩ = some (.slice n2 1 m2) := hA10.p14.cell 4
    have z5 : w10.cell? ⟨w6.heap.size, 5, none⟩ = some (.slice c2 0 k2) := hA10.p14.cell 5
    have z6 : w10.cell? ⟨w6.heap.size, 6, none⟩ = some (.bool false) := hA10.p14.cell 6
    have HA10 := Lib.hid hA10
    clear hA10
    go_wp2_with fail
    refine (HL3.out _ _ _ HA10.out.n2 HA10.out.c2).mono ?_
    rintro x w11 ⟨n4, m4, c4, k4, rfl, hb11⟩
    have hA11 := HA10.out.below hb11
    have HA11 := Lib.hid (hA11.below ((Below.refl w11.heap.size w11).alloc (Nat.le_refl _) (.cells #[.int .i64 2, .string key, .string ⟨#[97, 98, 99, 100, 101, 102, 103, 104, 105, 106, 107, 108, 109, 110, 111, 112, 113]⟩, .int .i64 16, .slice n4 1 m4, .slice c4 0 k4, .bool false] 31)))
    clear z0 z1 z2 z3 z4 z5 z6 hb11 HA10 HL3 hA11
    go_wp2_with fail
    refine (HT.out _).mono ?_
    rintro x w12 ⟨rfl, hb12⟩
    have hA12 := HA11.out.below hb12
    have z0 : w12.cell? ⟨w3.heap.size, 0, none⟩ = some (.int .i64 1) := hA12.p6.cell 0
    have z1 : w12.cell? ⟨w3.heap.size, 1, none⟩ = some (.string key) := hA12.p6.cell 1
    have z2 : w12.cell? ⟨w3.heap.size, 2, none⟩ = some (.string ⟨#[]⟩) := hA12.p6.cell 2
    have z3 : w12.cell? ⟨w3.heap.size, 3, none⟩ = some (.int .i64 0) := hA12.p6.cell 3
    have z4 : w12.cell? ⟨w3.heap.size, 4, none⟩ = some (.slice none 0 0) := hA12.p6.cell 4
    have z5 : w12.cell? ⟨w3.heap.size, 5, none⟩ = some (.slice none 0 0) := hA12.p6.cell 5
    have z6 : w12.cell? ⟨w3.heap.size, 6, none⟩ = some (.bool false) := hA12.p6.cell 6
    have HA12 := Lib.hid hA12
    clear hA12 hb12 HA11 HT
    go_wp2_with fail
    refine (HRt.out _).mono ?_
    rintro x w13 ⟨rfl, hb13⟩
    have Hb := Lib.hid (below_seq HA12.out.b hb13)
    clear z0 z1 z2 z3 z4 z5 z6 hb13 HA12 HRt
    go_wp2
    go_ret
    exact ⟨rfl, Hb.out⟩

end Go.Proofs.YtjnolopnkecmdaaGreat

/-
  A region that draws its order: one step for each operation serves every order (program independent). The head: operations that only add to memory; behind them a tail that waits for all of the head.
-/
namespace Go.Proofs.YtjnolopnkecmdaaGreat
open Go.RowKit

/-- The head's slots, filled. -/
def putAll : List Tmp → Nat → (Nat → Value) → Act → Act
  | [], _, _, a => a
  | d :: ds, k, x, a => putAll ds (k + 1) x (a.put (some d) (x k))

theorem put_self (a : Act) (d : Tmp) : a.put (some d) (a.tmps.getD d undef) = a := by
  obtain ⟨t, f⟩ := a
  show (⟨t.setIfInBounds d (t.getD d undef), f⟩ : Act) = ⟨t, f⟩
  refine congrArg (fun t => (⟨t, f⟩ : Act)) ?_
  apply Array.ext_getElem?
  intro i
  by_cases h : d = i
  · subst h
    by_cases hd : d < t.size
    · simp [hd]
    · simp [hd]
  · rw [Array.getElem?_setIfInBounds_ne h]
theorem put_twice (a : Act) (d : Tmp) (u v : Value) : (a.put (some d) u).put (some d) v = a.put (some d) v := by
  unfold Act.put
  simp
theorem putAll_put {d : Tmp} {v : Value} : ∀ (ds : List Tmp) (k : Nat) (x : Nat → Value) (a : Act), d ∉ ds → (putAll ds k x a).put (some d) v = putAll ds k x (a.put (some d) v)
  | [], _, _, _, _ => rfl
  | e :: ds, k, x, a, h => by
    show (putAll ds (k + 1) x (a.put (some e) (x k))).put (some d) v = putAll ds (k + 1) x ((a.put (some d) v).put (some e) (x k))
    rw [putAll_put ds (k + 1) x _ (fun hm => h (List.mem_cons_of_mem _ hm)), Act.put_comm a (x := some e) (y := some d) (x k) v (fun c hc hd => h (by
      cases hc; cases hd; exact List.mem_cons_self))]
theorem putAll_congr : ∀ (ds : List Tmp) (k : Nat) (x y : Nat → Value) (a : Act), (∀ j, k ≤ j → x j = y j) → putAll ds k x a = putAll ds k y a
  | [], _, _, _, _, _ => rfl
  | e :: ds, k, x, y, a, h => by
    show putAll ds (k + 1) x (a.put (some e) (x k)) = putAll ds (k + 1) y (a.put (some e) (y k))
    rw [h k (Nat.le_refl _)]
    exact putAll_congr ds (k + 1) x y _ (fun j hj => h j (by omega))
theorem putAll_at {v : Value} : ∀ (ds : List Tmp) (k i : Nat) (d : Tmp) (x : Nat → Value) (a : Act), ds.Nodup → ds[i]? = some d →
    (putAll ds k x a).put (some d) v = putAll ds k (fun j => if j = k + i then v else x j) a
  | [], _, _, _, _, _, _, h => by simp at h
  | e :: ds, k, 0, d, x, a, hn, h => by
    simp only [List.getElem?_cons_zero, Option.some.injEq] at h
    subst h
    rw [List.nodup_cons] at hn
    show (putAll ds (k + 1) x (a.put (some e) (x k))).put (some e) v = putAll ds (k + 1) _ (a.put (some e) (if k = k + 0 then v else x k))
    rw [putAll_put ds _ _ _ hn.1, put_twice, if_pos (by omega)]
    exact putAll_congr ds (k + 1) _ _ _ (fun j hj => by rw [if_neg (by omega)])
  | e :: ds, k, i + 1, d, x, a, hn, h => by
    rw [List.nodup_cons] at hn
    show (putAll ds (k + 1) x (a.put (some e) (x k))).put (some d) v = putAll ds (k + 1) _ (a.put (some e) (if k = k + (i + 1) then v else x k))
    rw [if_neg (by omega), putAll_at ds (k + 1) i d x _ hn.2 (by simpa using h)]
    exact putAll_congr ds (k + 1) _ _ _ (fun j _ => by rw [show k + 1 + i = k + (i + 1) by omega])
theorem putAll_old : ∀ (ds : List Tmp) (k : Nat) (a : Act), ∃ x, putAll ds k x a = a
  | [], _, _ => ⟨fun _ => undef, rfl⟩
  | e :: ds, k, a => by
    obtain ⟨x, hx⟩ := putAll_old ds (k + 1) a
    refine ⟨fun j => if j = k then a.tmps.getD e undef else x j, ?_⟩
    show putAll ds (k + 1) _ (a.put (some e) (if k = k then a.tmps.getD e undef else x k)) = a
    rw [if_pos rfl, put_self]
    exact (putAll_congr ds (k + 1) _ x a (fun j hj => by rw [if_neg (by omega)])).trans hx

/-- How many of the first n are not listed. -/
def unl (listed : Array Bool) : Nat → Nat
  | 0 => 0
  | k + 1 => unl listed k + (if listed.getD k false = true then 0 else 1)
theorem unl_zero {listed : Array Bool} : ∀ {n : Nat}, unl listed n = 0 → ∀ j, j < n → listed.getD j false = true
  | 0, _, _, h => absurd h (Nat.not_lt_zero _)
  | n + 1, h, j, hj => by
    unfold unl at h
    by_cases hn : listed.getD n false = true
    · rw [if_pos hn] at h
      rcases Nat.lt_succ_iff_lt_or_eq.1 hj with h1 | rfl
      · exact unl_zero h j h1
      · exact hn
    · rw [if_neg hn] at h
      omega
theorem unl_same {listed : Array Bool} {i : Nat} : ∀ {n : Nat}, n ≤ i → unl (listed.setIfInBounds i true) n = unl listed n
  | 0, _ => rfl
  | n + 1, h => by
    unfold unl
    rw [unl_same (by omega : n ≤ i)]
    have : (listed.setIfInBounds i true).getD n false = listed.getD n false := by
      rw [Array.getD_eq_getD_getElem?, Array.getD_eq_getD_getElem?, Array.getElem?_setIfInBounds_ne (by omega)]
    rw [this]
theorem unl_step {listed : Array Bool} {i : Nat} (hi : i < listed.size) (hf : listed.getD i false = false) : ∀ {n : Nat}, i < n → unl (listed.setIfInBounds i true) n + 1 = unl listed n
  | 0, h => absurd h (Nat.not_lt_zero _)
  | n + 1, h => by
    unfold unl
    by_cases hn : i = n
    · subst hn
      rw [unl_same (Nat.le_refl _)]
      have : (listed.setIfInBounds i true).getD i false = true := by
        rw [Array.getD_eq_getD_getElem?]
        simp [hi]
      rw [this, hf]
      rfl
    · have : (listed.setIfInBounds i true).getD n false = listed.getD n false := by
        rw [Array.getD_eq_getD_getElem?, Array.getD_eq_getD_getElem?, Array.getElem?_setIfInBounds_ne hn]
      rw [this]
      have := unl_step hi hf (n := n) (by omega)
      omega
theorem unl_some {listed : Array Bool} : ∀ {n : Nat}, unl listed n ≠ 0 → ∃ i, i < n ∧ listed.getD i false = false ∧ ∀ j, j < i → listed.getD j false = true
  | 0, h => absurd rfl h
  | n + 1, h => by
    by_cases h0 : unl listed n = 0
    · unfold unl at h
      refine ⟨n, Nat.lt_succ_self _, ?_, fun j hj => unl_zero h0 j hj⟩
      cases hb : listed.getD n false with
      | false => rfl
      | true => rw [h0, if_pos hb] at h; exact absurd rfl h
    · obtain ⟨i, hi, h1, h2⟩ := unl_some h0
      exact ⟨i, by omega, h1, h2⟩

/-- What is looked at once: the head's slots are ds, unlike, without guards; edges lead back; the tail waits for all of the head. -/
def headB (ops : Array Oper) (n : Nat) (ds : List Tmp) : Bool :=
  decide (ds.length = n) && decide ds.Nodup && decide (n ≤ ops.size) &&
  ((List.range ops.size).all fun i => match ops[i]? with
    | none => false
    | some o =>
      if i < n then (o.dst == ds[i]?) && (o.guard.isNone) && (o.after.all fun e => !Region.binds .any e || decide (e.on < i))
      else (List.range n).all fun j => o.after.any fun e => Region.binds .any e && e.on == j)

theorem ready_mem {ops : Array Oper} {listed : Array Bool} {i : Nat} (h : i ∈ Region.ready .any ops listed) :
    i < ops.size ∧ listed.getD i true = false ∧ ∃ o, ops[i]? = some o ∧ ∀ e ∈ o.after, Region.binds .any e = true → listed.getD e.on false = true := by
  unfold Region.ready at h
  rw [List.mem_filter] at h
  obtain ⟨h1, h2⟩ := h
  rw [List.mem_range] at h1
  rw [Bool.and_eq_true] at h2
  refine ⟨h1, by simpa using h2.1, ops[i], Array.getElem?_eq_getElem h1, fun e he hb => ?_⟩
  have h3 := h2.2
  rw [Array.getElem?_eq_getElem h1] at h3
  simp only [Option.map_some, Option.getD_some] at h3
  rw [Array.all_eq_true'] at h3
  have h4 := h3 e he
  rw [hb] at h4
  simpa using h4

theorem putAll_size : ∀ (ds : List Tmp) (k : Nat) (x : Nat → Value) (a : Act), (putAll ds k x a).tmps.size = a.tmps.size
  | [], _, _, _ => rfl
  | e :: ds, k, x, a => by
    show (putAll ds (k + 1) x (a.put (some e) (x k))).tmps.size = _
    rw [putAll_size]
    exact Array.size_setIfInBounds ..
theorem putAll_out {t : Tmp} : ∀ (ds : List Tmp) (k : Nat) (x : Nat → Value) (a : Act), t ∉ ds → (putAll ds k x a).eval (.tmp t) = a.eval (.tmp t)
  | [], _, _, _, _ => rfl
  | e :: ds, k, x, a, h => by
    show (putAll ds (k + 1) x (a.put (some e) (x k))).eval (.tmp t) = _
    rw [putAll_out ds _ _ _ (fun hm => h (List.mem_cons_of_mem _ hm))]
    exact Act.eval_put (fun d hd hx => by
      cases hd
      cases hx
      exact h List.mem_cons_self)
theorem putAll_in {t : Tmp} : ∀ (ds : List Tmp) (k i : Nat) (x : Nat → Value) (a : Act), ds.Nodup → ds[i]? = some t → t < a.tmps.size → (putAll ds k x a).eval (.tmp t) = x (k + i)
  | [], _, _, _, _, _, h, _ => by simp at h
  | e :: ds, k, 0, x, a, hn, h, hs => by
    simp only [List.getElem?_cons_zero, Option.some.injEq] at h
    subst h
    rw [List.nodup_cons] at hn
    show (putAll ds (k + 1) x (a.put (some e) (x k))).eval (.tmp e) = _
    rw [putAll_out ds _ _ _ hn.1]
    show (a.tmps.setIfInBounds e (x k)).getD e undef = x k
    rw [Array.getD_eq_getD_getElem?]
    simp [hs]
  | e :: ds, k, i + 1, x, a, hn, h, hs => by
    rw [List.nodup_cons] at hn
    show (putAll ds (k + 1) x (a.put (some e) (x k))).eval (.tmp t) = _
    rw [putAll_in ds (k + 1) i x _ hn.2 (by simpa using h) (by
      show t < (a.tmps.setIfInBounds e (x k)).size
      rw [Array.size_setIfInBounds]
      exact hs), show k + 1 + i = k + (i + 1) by omega]

/-- An operation runs to its end, adds to memory alone, and what it yields is as R says. -/
structure Stepped (P : Program) (ρ : Operand → Value) (o : Oper) (w : World) (R : Value → World → Prop) : Prop where
  out : (∃ v w', (execOp ρ o).run P w = .ok (.value v) w' ∧ Below w.heap.size w w' ∧ R v w') ∨
    ∃ f args w1, (execOp ρ o).run P w = .ok (.enter f args) w1 ∧ Calls P f args w1 fun e w' => ∃ v, e = .returned v ∧ Below w.heap.size w w' ∧ R v w'
theorem Stepped.val {P : Program} {ρ : Operand → Value} {o : Oper} {w : World} {R : Value → World → Prop} {v : Value} (h : (execOp ρ o).run P w = .ok (.value v) w) (hR : R v w) : Stepped P ρ o w R := ⟨.inl ⟨v, w, h, Below.refl _ _, hR⟩⟩
theorem Stepped.grow {P : Program} {ρ : Operand → Value} {o : Oper} {w w' : World} {R : Value → World → Prop} {v : Value} (h : (execOp ρ o).run P w = .ok (.value v) w') (hb : Below w.heap.size w w') (hR : R v w') : Stepped P ρ o w R := ⟨.inl ⟨v, w', h, hb, hR⟩⟩
theorem Stepped.call {P : Program} {ρ : Operand → Value} {o : Oper} {w : World} {R : Value → World → Prop} {f : FuncId} {args : Array Value} (h : (execOp ρ o).run P w = .ok (.enter f args) w) (hc : Calls P f args w fun e w' => ∃ v, e = .returned v ∧ Below w.heap.size w w' ∧ R v w') : Stepped P ρ o w R := ⟨.inr ⟨f, args, w, h, hc⟩⟩
theorem Stepped.wp {P : Program} {a : Act} {o : Oper} {w : World} {R : Value → World → Prop} (h : Stepped P a.eval o w R) {K : Act → World → Prop} {Q : Exit → Act → World → Prop} (hK : ∀ v w', Below w.heap.size w w' → R v w' → K (a.put o.dst v) w') : o.wp P a w K Q := by
  unfold Oper.wp
  rcases h.out with ⟨v, w', h1, h2, h3⟩ | ⟨f, args, w1, h1, h2⟩
  · rw [h1]
    exact hK v w' h2 h3
  · rw [h1]
    show Calls P f args w1 _
    refine h2.mono ?_
    rintro e w' ⟨v, rfl, h3, h4⟩
    exact hK v w' h3 h4

/-- A step for each of the head's operations from the i-th on. -/
def HSteps (P : Program) (ops : Array Oper) (n : Nat) (ds : List Tmp) (R : Nat → Value → World → Prop) (a0 : Act) (w0 : World) (i : Nat) : Prop :=
  ∀ j, i ≤ j → j < n → ∀ o, ops[j]? = some o → ∀ (x : Nat → Value) (w : World) (ρ : Operand → Value), Below w0.heap.size w0 w → (∀ e ∈ o.after, Region.binds .any e = true → R e.on (x e.on) w) →
      (∀ i d, ds[i]? = some d → ρ (.tmp d) = x i) → (∀ t, t ∉ ds → ρ (.tmp t) = a0.eval (.tmp t)) → (∀ v, ρ (.const v) = v) → (∀ f, ρ (.func f) = .func (.func f) #[] #[]) → Stepped P ρ o w (R j)
theorem HSteps.nil {P : Program} {ops : Array Oper} {n : Nat} {ds : List Tmp} {R : Nat → Value → World → Prop} {a0 : Act} {w0 : World} {i : Nat} (h : n ≤ i) : HSteps P ops n ds R a0 w0 i := fun j h1 h2 => by omega
theorem HSteps.cons {P : Program} {ops : Array Oper} {n : Nat} {ds : List Tmp} {R : Nat → Value → World → Prop} {a0 : Act} {w0 : World} {i : Nat} {o : Oper} (ho : ops[i]? = some o)
    (h : ∀ (x : Nat → Value) (w : World) (ρ : Operand → Value), Below w0.heap.size w0 w → (∀ e ∈ o.after, Region.binds .any e = true → R e.on (x e.on) w) →
      (∀ i d, ds[i]? = some d → ρ (.tmp d) = x i) → (∀ t, t ∉ ds → ρ (.tmp t) = a0.eval (.tmp t)) → (∀ v, ρ (.const v) = v) → (∀ f, ρ (.func f) = .func (.func f) #[] #[]) → Stepped P ρ o w (R i))
    (hs : HSteps P ops n ds R a0 w0 (i + 1)) : HSteps P ops n ds R a0 w0 i := by
  intro j h1 h2 o' ho'
  by_cases hj : j = i
  · subst hj
    rw [ho] at ho'
    cases ho'
    exact h
  · exact hs j (by omega) h2 o' ho'

theorem wpAny_head {P : Program} {ops : Array Oper} {Q : Exit → Act → World → Prop} (n : Nat) (ds : List Tmp) (t : Nat) (L : Array Bool) (R : Nat → Value → World → Prop) {a0 : Act} {w0 : World}
    (ht : ops.size - n = t) (hL : ((List.range ops.size).map fun j => decide (j < n)).toArray = L) (hc : headB ops n ds = true) (hds : (ds.all fun d => decide (d < a0.tmps.size)) = true)
    (hmono : ∀ j, j < n → ∀ v w w', R j v w → Below w.heap.size w w' → R j v w')
    (hstep : HSteps P ops n ds R a0 w0 0)
    (hrest : ∀ x w, Below w0.heap.size w0 w → (∀ j, j < n → R j (x j) w) → wpAny P .any ops Q t L (putAll ds 0 x a0) w) :
    wpAny P .any ops Q ops.size (Array.replicate ops.size false) a0 w0 := by
  subst ht hL
  unfold headB at hc
  simp only [Bool.and_eq_true, decide_eq_true_eq] at hc
  obtain ⟨⟨⟨hlen, hnd⟩, hle⟩, hall⟩ := hc
  rw [List.all_eq_true] at hall
  have hop : ∀ i, i < n → ∀ o, ops[i]? = some o → (∃ d, o.dst = some d ∧ ds[i]? = some d) ∧ o.guard = none ∧ ∀ e ∈ o.after, Region.binds .any e = true → e.on < i := by
    intro i hi o ho
    have h := hall i (List.mem_range.2 (by omega))
    rw [ho] at h
    simp only [if_pos hi, Bool.and_eq_true] at h
    obtain ⟨⟨h1, h2⟩, h3⟩ := h
    refine ⟨?_, by simpa using h2, fun e he hb => ?_⟩
    · have hid : i < ds.length := by omega
      refine ⟨ds[i], ?_, List.getElem?_eq_getElem hid⟩
      have h4 := eq_of_beq h1
      rw [h4, List.getElem?_eq_getElem hid]
    · rw [Array.all_eq_true'] at h3
      have h4 := h3 e he
      rw [hb] at h4
      simpa using h4
  have htail : ∀ i, n ≤ i → ∀ o, ops[i]? = some o → ∀ j, j < n → ∃ e ∈ o.after, Region.binds .any e = true ∧ e.on = j := by
    intro i hi o ho j hj
    have hil : i < ops.size := (Array.getElem?_eq_some_iff.1 ho).1
    have h := hall i (List.mem_range.2 hil)
    rw [ho] at h
    simp only [if_neg (show ¬ i < n by omega)] at h
    rw [List.all_eq_true] at h
    have h1 := h j (List.mem_range.2 hj)
    rw [Array.any_eq_true'] at h1
    obtain ⟨e, he, h2⟩ := h1
    rw [Bool.and_eq_true] at h2
    exact ⟨e, he, h2.1, by simpa using h2.2⟩
  have claim : ∀ (m : Nat) (listed : Array Bool) (x : Nat → Value) (w : World), unl listed n = m → listed.size = ops.size → (∀ j, n ≤ j → listed.getD j false = false) → Below w0.heap.size w0 w →
      (∀ j, j < n → listed.getD j false = true → R j (x j) w) → wpAny P .any ops Q (m + (ops.size - n)) listed (putAll ds 0 x a0) w := by
    intro m
    induction m with
    | zero =>
      intro listed x w hm hsz hlo hB hRx
      rw [Nat.zero_add]
      have hl : listed = ((List.range ops.size).map fun j => decide (j < n)).toArray := by
        apply Array.ext
        · simp [hsz]
        · intro j h1 h2
          have hj : listed.getD j false = listed[j] := by rw [Array.getD_eq_getD_getElem?, Array.getElem?_eq_getElem h1]; rfl
          have : listed[j] = decide (j < n) := by
            rw [← hj]
            by_cases hjn : j < n
            · rw [unl_zero hm j hjn, decide_eq_true hjn]
            · rw [hlo j (by omega), decide_eq_false hjn]
          rw [this]
          simp
      rw [hl]
      exact hrest x w hB (fun j hj => hRx j hj (unl_zero hm j hj))
    | succ m ih =>
      intro listed x w hm hsz hlo hB hRx
      rw [show m + 1 + (ops.size - n) = (m + (ops.size - n)) + 1 by omega]
      obtain ⟨i0, hi0, hf0, hb0⟩ := unl_some (listed := listed) (n := n) (by omega)
      have hi0s : i0 < ops.size := by omega
      refine ⟨fun hr => ?_, fun i hi => ?_⟩
      · exfalso
        have : i0 ∈ Region.ready .any ops listed := by
          unfold Region.ready
          rw [List.mem_filter]
          refine ⟨List.mem_range.2 hi0s, ?_⟩
          rw [Bool.and_eq_true]
          constructor
          · have : listed.getD i0 true = false := by
              rw [Array.getD_eq_getD_getElem?] at hf0 ⊢
              rw [Array.getElem?_eq_getElem (by omega)] at hf0 ⊢
              exact hf0
            rw [this]
            rfl
          · rw [Array.getElem?_eq_getElem hi0s]
            simp only [Option.map_some, Option.getD_some]
            rw [Array.all_eq_true']
            intro e he
            cases hb : Region.binds .any e with
            | false => rfl
            | true =>
              have := (hop i0 hi0 _ (Array.getElem?_eq_getElem hi0s)).2.2 e he hb
              rw [hb0 e.on this]
              rfl
        rw [hr] at this
        cases this
      · obtain ⟨his, hif, o, ho, hedge⟩ := ready_mem hi
        have hif' : listed.getD i false = false := by
          rw [Array.getD_eq_getD_getElem?] at hif ⊢
          rw [Array.getElem?_eq_getElem (by omega)] at hif ⊢
          exact hif
        have hin : i < n := by
          refine Decidable.byContradiction fun hge => ?_
          obtain ⟨e, he, hb, hj⟩ := htail i (by omega) o ho i0 hi0
          have := hedge e he hb
          rw [hj, hf0] at this
          cases this
        obtain ⟨⟨d, hd, hdi⟩, hg, hback⟩ := hop i hin o ho
        unfold wpOp
        rw [ho]
        have hwant : Region.wanted o (yielded ops (putAll ds 0 x a0).tmps) = true := by
          unfold Region.wanted
          rw [hg]
        simp only [hwant, if_true]
        refine .inl (Stepped.wp (hstep i (Nat.zero_le _) hin o ho x w _ hB (fun e he hb => hRx e.on (by have := hback e he hb; omega) (hedge e he hb)) ?_ ?_ (fun _ => rfl) (fun _ => rfl)) ?_)
        · intro i d hid
          rw [putAll_in ds 0 i x a0 hnd hid (by
            have h := List.all_eq_true.1 hds d (List.mem_of_getElem? hid)
            simpa using h), Nat.zero_add]
        · exact fun t ht => putAll_out ds 0 x a0 ht
        intro v w' hbw hR
        rw [hd, putAll_at ds 0 i d x a0 hnd hdi]
        refine ih (listed.setIfInBounds i true) _ w' ?_ ?_ ?_ ?_ ?_
        · have := unl_step (listed := listed) (by omega : i < listed.size) hif' hin
          omega
        · rw [Array.size_setIfInBounds, hsz]
        · intro j hj
          rw [Array.getD_eq_getD_getElem?, Array.getElem?_setIfInBounds_ne (by omega), ← Array.getD_eq_getD_getElem?]
          exact hlo j hj
        · exact hB.trans (hbw.mono hB.size)
        · intro j hj hlj
          by_cases hji : j = i
          · subst hji
            rw [if_pos (by omega)]
            exact hR
          · rw [if_neg (by omega)]
            rw [Array.getD_eq_getD_getElem?, Array.getElem?_setIfInBounds_ne (Ne.symm hji), ← Array.getD_eq_getD_getElem?] at hlj
            exact hmono j hj _ _ _ (hRx j hj hlj) hbw
  obtain ⟨x, hx⟩ := putAll_old ds 0 a0
  have hun : ∀ k, k ≤ ops.size → unl (Array.replicate ops.size false) k = k := by
    intro k
    induction k with
    | zero => exact fun _ => rfl
    | succ k ih =>
      intro hk
      unfold unl
      rw [ih (by omega)]
      have : (Array.replicate ops.size false).getD k false = false := by
        rw [Array.getD_eq_getD_getElem?]
        simp [show k < ops.size by omega]
      rw [this]
      rfl
  have h := claim n (Array.replicate ops.size false) x w0 (hun n hle) (Array.size_replicate ..) (fun j _ => by
    rw [Array.getD_eq_getD_getElem?]
    by_cases hj : j < ops.size
    · simp [hj]
    · simp [hj]) (Below.refl _ _) (fun j _ hl => by
    rw [Array.getD_eq_getD_getElem?] at hl
    by_cases hj : j < ops.size
    · simp [hj] at hl
    · simp [hj] at hl)
  rw [hx, show n + (ops.size - n) = ops.size by omega] at h
  exact h

end Go.Proofs.YtjnolopnkecmdaaGreat
