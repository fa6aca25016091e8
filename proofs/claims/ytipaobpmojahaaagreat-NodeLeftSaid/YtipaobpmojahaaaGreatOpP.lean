/-
  polliwoglaw16: the first act's unit. Conditions: the end's first number may be · polliwoglaw06: num, Own of the first act's unit; Same. Conditions: its number may be · polliwoglaw16.Same: of equal signals it is true. Conditions: none but that · polliwoglaw06.Same: of equal units without lists it is true. Conditions: numbers that may be.
-/
import Derived.Test.YtipaobpmojahaaaGreatOpK
import Derived.Test.YtipaobpmojahaaaGreatOp6
import Derived.Deep.QuietTactic
import Derived.BigQuiet
set_option maxHeartbeats 4000000
namespace Go.Proofs.YtipaobpmojahaaaGreat
open Go.RowKit
set_option maxRecDepth 20000
set_option linter.constructorNameAsVariable false

def actB : List Value := [.int .i64 0, .int .i64 0, .int .i64 0, .int .i64 2, .int .i64 5, .int .i64 0, .int .i64 31, .int .i64 0, .slice none 0 0, .string { data := #[] }]
def pdS (a b : Int) : List Value := [.int .i64 1, .int .i64 a, .int .i64 b, .int .i64 0, .int .i64 0, .slice none 0 0, .bool false, .string { data := #[] }]
theorem runit1_bgn (x : Rn) (hy : 0 <= x.y5 ∧ x.y5 < 16777216) (w : World) :
  Calls Tryz.prog 66 #[.agg actB.toArray, .agg x.cells.toArray] w fun e w' => e = .returned (.agg (pdL ((x.y5 + 31) % 16777216)).toArray) ∧ Fresh w w' := by
 have HSQ := lh (hasSQ_any 1)
 rw [show ([1, 2, 3, 4, 5, 6, 7, 9, 15] : List Int).contains 1 = true by decide] at HSQ
 have HNN := lh (hasN_any 1)
 rw [show ([1, 2, 5, 6, 8, 9, 10, 11, 12, 15] : List Int).contains 1 = true by decide] at HNN
 have HMO := lh (most06_any 1)
 rw [show most06 1 = 64 by decide] at HMO
 have HNR := lh (fun W => near_31 x.y5 W hy)
 have HCU := lh (cutN_any { data := #[] } 10 (by decide))
 rw [show cutN { data := #[] } 10 = { data := #[] } by decide +kernel] at HCU
 obtain ⟨n, hn⟩ := xq ((x.y5 + 31) % 16777216)
 rw [<- hn] at HNR ⊢
 clear hn hy
 have b1 : bits BinOp.and .i64 0 255 = 0 := by kernel_rfl
 have b2 : bits BinOp.and .i64 5 255 = 5 := by kernel_rfl
 have b3 : bits BinOp.and .i64 2 3 = 2 := by kernel_rfl
 obtain ⟨w1, hw1⟩ := xq (((w.alloc (.cells actB.toArray 79)).alloc (.cells x.cells.toArray 40)).alloc (.cells pdZ.toArray 139))
 have HX : Hid (FB (FF w) [w.heap.size, w.heap.size + 1, w.heap.size + 1 + 1] w w1 [⟨w.heap.size, 79, actB⟩, ⟨w.heap.size + 1, 40, x.cells⟩, ⟨w.heap.size + 1 + 1, 139, pdZ⟩]) := by rw [hw1]; exact ((((FB.nil w (fun k e => e)).al _ actB _ (by simp)).al _ x.cells _ (by simp)).al _ pdZ _ (by simp))
 unfold pdZ at hw1
 go_enter Tryz.func66, Tryz.ntmps66
 go_upto_region 1 with (fail)
 rw [<- hw1]
 clear hw1
 generalize hg : w.heap.size = g at *
 have a2 : w1.cell? ⟨g, 2, none⟩ = some (.int .i64 0) := (HX.out.at_ 0 rfl).cell 2
 go_upto_region 2 with (refine wpList_storeB rfl _ (.tmp 5) (.tmp 12) rfl w1.heap.size 0 (by rfl) (pdS 0 0) (by rfl) ((HX.out.al 139 pdZ w1.heap.size rfl).at_ 3 rfl) (Nat.le_of_ble_eq_true rfl) rp06I (by simp [pdS, Value.oneCell']) ?_; intro w2 hB ht; have HX := lh ((HX.out.al 139 pdZ w1.heap.size rfl).put 3 rfl (cs := pdS 0 0) (hB.eq_cells rfl) ht); clear hB ht)
 generalize w1.heap.size = h at *
 have HX2 : Hid (FB (FF w) [g, g + 1, g + 1 + 1, h] w w2 [⟨g, 79, actB⟩, ⟨g + 1, 40, x.cells⟩, ⟨g + 1 + 1, 139, pdZ⟩, ⟨h, 139, pdS 0 0⟩]) := HX.out
 clear HX a2
 have HX := HX2
 clear HX2
 have p0 : w2.cell? ⟨h, 0, none⟩ = some (.int .i64 1) := (HX.out.at_ 3 rfl).cell 0
 go_wp2_with fail
 refine (HSQ.out _).mono ?_
 rintro e w3 ⟨rfl, f3⟩
 have HX := lh (HX.out.fresh f3)
 clear f3 p0
 have a4 : w3.cell? ⟨g, 4, none⟩ = some (.int .i64 5) := (HX.out.at_ 0 rfl).cell 4
 have f1 : w3.frozen? ⟨h, 1, none⟩ = false := (HX.out.at_ 3 rfl).frozen 1
 have p1 : w3.cell? ⟨h, 1, none⟩ = some (.int .i64 0) := (HX.out.at_ 3 rfl).cell 1
 simp only
 go_upto_region 4 with (fail)
 have HX2 : Hid (FB (FF w) [g, g + 1, g + 1 + 1, h] w (w3.setCell ⟨h, 1, none⟩ (.int .i64 5)) [⟨g, 79, actB⟩, ⟨g + 1, 40, x.cells⟩, ⟨g + 1 + 1, 139, pdZ⟩, ⟨h, 139, pdS 5 0⟩]) := HX.out.put1 3 rfl 1 (.int .i64 5)
 clear HX a4 f1 p1
 have HX := HX2
 clear HX2
 generalize w3.setCell ⟨h, 1, none⟩ (.int .i64 5) = w4 at *
 have a3 : w4.cell? ⟨g, 3, none⟩ = some (.int .i64 2) := (HX.out.at_ 0 rfl).cell 3
 have p0 : w4.cell? ⟨h, 0, none⟩ = some (.int .i64 1) := (HX.out.at_ 3 rfl).cell 0
 go_wp2_with fail
 refine (HNN.out _).mono ?_
 rintro e w5 ⟨rfl, f3⟩
 have HX := lh (HX.out.fresh f3)
 clear f3 p0 a3
 have a6 : w5.cell? ⟨g, 6, none⟩ = some (.int .i64 31) := (HX.out.at_ 0 rfl).cell 6
 have y5 : w5.cell? ⟨g + 1, 5, none⟩ = some (.int .i64 x.y5) := (HX.out.at_ 1 rfl).cell 5
 have f2 : w5.frozen? ⟨h, 2, none⟩ = false := (HX.out.at_ 3 rfl).frozen 2
 have p2 : w5.cell? ⟨h, 2, none⟩ = some (.int .i64 0) := (HX.out.at_ 3 rfl).cell 2
 simp only
 go_wp2_with fail
 refine (HNR.out _).mono ?_
 rintro e w6 ⟨rfl, e6⟩
 rw [e6]
 clear e6 w6
 go_upto_region 10 with (fail)
 have HX2 : Hid (FB (FF w) [g, g + 1, g + 1 + 1, h] w (w5.setCell ⟨h, 2, none⟩ (.int .i64 n)) [⟨g, 79, actB⟩, ⟨g + 1, 40, x.cells⟩, ⟨g + 1 + 1, 139, pdZ⟩, ⟨h, 139, pdS 5 n⟩]) := HX.out.put1 3 rfl 2 (.int .i64 n)
 clear HX a6 y5 f2 p2
 have HX := HX2
 clear HX2
 generalize w5.setCell ⟨h, 2, none⟩ (.int .i64 n) = w7 at *
 have p0 : w7.cell? ⟨h, 0, none⟩ = some (.int .i64 1) := (HX.out.at_ 3 rfl).cell 0
 go_wp2_with fail
 refine (HMO.out _).mono ?_
 rintro e w8 ⟨rfl, f3⟩
 have HX := lh (HX.out.fresh f3)
 clear f3 p0
 have a9 : w8.cell? ⟨g, 9, none⟩ = some (.string { data := #[] }) := (HX.out.at_ 0 rfl).cell 9
 have f7 : w8.frozen? ⟨h, 7, none⟩ = false := (HX.out.at_ 3 rfl).frozen 7
 have p7 : w8.cell? ⟨h, 7, none⟩ = some (.string { data := #[] }) := (HX.out.at_ 3 rfl).cell 7
 simp only
 go_wp2_with fail
 refine (HCU.out _).mono ?_
 rintro e w9 ⟨rfl, e6⟩
 rw [e6]
 clear e6 w9
 go_upto_region 12 with (fail)
 have HX2 : Hid (FB (FF w) [g, g + 1, g + 1 + 1, h] w (w8.setCell ⟨h, 7, none⟩ (.string { data := #[] })) [⟨g, 79, actB⟩, ⟨g + 1, 40, x.cells⟩, ⟨g + 1 + 1, 139, pdZ⟩, ⟨h, 139, pdS 5 n⟩]) := HX.out.put1 3 rfl 7 (.string { data := #[] })
 clear HX a9 f7 p7
 have HX := HX2
 clear HX2
 generalize w8.setCell ⟨h, 7, none⟩ (.string { data := #[] }) = wa at *
 have p0 : wa.cell? ⟨h, 0, none⟩ = some (.int .i64 1) := (HX.out.at_ 3 rfl).cell 0
 go_upto_region 28 with (fail)
 refine wp_region_lit ?_
 refine wpList_loadB rfl _ (.tmp 5) rfl h 0 (by rfl) (pdS 5 n) (HX.out.at_ 3 rfl).range Tryz.underlying139 rfl rp06I ?_
 refine wpList_storeB rfl _ (.tmp 4) (.tmp 156) rfl (g + 1 + 1) 0 (by rfl) (pdS 5 n) (by rfl) (HX.out.at_ 2 rfl) (Nat.le_of_ble_eq_true rfl) rp06I (by simp [pdS, Value.oneCell']) ?_
 intro wb hB ht
 have HX := lh (HX.out.put 2 rfl (cs := pdS 5 n) (hB.eq_cells rfl) ht)
 clear hB ht
 go_wp2_with fail
 exact bodyPost_ret (v := .agg (pdS 5 n).toArray) (results_c Tryz.results66 _ (by rfl) (HX.out.at_ 2 rfl).range Tryz.underlying139 rfl rp06I) rfl ⟨rfl, HX.out.ff⟩
set_option maxRecDepth 20000
set_option linter.constructorNameAsVariable false

def bgU (n : Int) : Cn.Pd := ⟨1, 5, n, 0, 0, none, 0, 0, false, Cn.no⟩
theorem num06_pos (x : Int) (w : World) (h : 0 <= x) (h' : x < 16777216) : Calls Tryz.prog 149 #[.int .i64 x] w fun e w' => e = .returned (.int .u32 x) ∧ w = w' := by
 have e1 : min x 4294967295 = x := by omega
 have e2 : max 0 x = x := by omega
 go_enter Tryz.func149, Tryz.ntmps149
 go_wp2
 go_ret
 exact ⟨rfl, rfl⟩
def uuZ : List Value := [.int .i64 0, .int .i64 0, .int .u32 0, .int .u32 0, .int .u32 0, .slice none 0 0, .bool false, .string { data := #[] }]
theorem uuI : (Tryz.prog.info? 58).map (·.size) = some 8 := by kernel_rfl
theorem own06_bgn (n : Int) (w : World) (h : 0 <= n) (h' : n < 16777216) :
  Calls Tryz.prog 65 #[.agg (pdL n).toArray] w fun e w' => e = .returned (pduV (bgU n)) ∧ Fresh w w' := by
 have HN := lh (fun W => num06_pos n W h h')
 have H0 := lh (fun W => num06_pos 0 W (by decide) (by decide))
 clear h h'
 obtain ⟨w1, hw1⟩ := xq ((w.alloc (.cells (pdL n).toArray 139)).alloc (.cells uuZ.toArray 58))
 have HX : Hid (FB (FF w) [w.heap.size, w.heap.size + 1] w w1 [⟨w.heap.size, 139, pdL n⟩, ⟨w.heap.size + 1, 58, uuZ⟩]) := by rw [hw1]; exact (((FB.nil w (fun k e => e)).al _ (pdL n) _ (by simp)).al _ uuZ _ (by simp))
 unfold uuZ at hw1
 go_enter Tryz.func65, Tryz.ntmps65
 go_upto_region 1 with (fail)
 rw [<- hw1]
 clear hw1
 generalize hg : w.heap.size = g at *
 have HC : Hid (∀ W, Fresh w1 W -> W.cell? ⟨g, 0, none⟩ = some (.int .i64 1) ∧ W.cell? ⟨g, 1, none⟩ = some (.int .i64 5) ∧ W.cell? ⟨g, 2, none⟩ = some (.int .i64 n) ∧ W.cell? ⟨g, 3, none⟩ = some (.int .i64 0) ∧ W.cell? ⟨g, 4, none⟩ = some (.int .i64 0) ∧ W.cell? ⟨g, 6, none⟩ = some (.bool false) ∧ W.cell? ⟨g, 7, none⟩ = some (.string { data := #[] })) := fun W f => by
  have h := f.blk (HX.out.at_ 0 rfl) (fun e => e)
  exact ⟨h.cell 0, h.cell 1, h.cell 2, h.cell 3, h.cell 4, h.cell 6, h.cell 7⟩
 go_region_held3 (fun W => W.cell? ⟨g, 0, none⟩ = some (.int .i64 1) ∧ W.cell? ⟨g, 1, none⟩ = some (.int .i64 5) ∧ W.cell? ⟨g, 2, none⟩ = some (.int .i64 n) ∧ W.cell? ⟨g, 3, none⟩ = some (.int .i64 0) ∧ W.cell? ⟨g, 4, none⟩ = some (.int .i64 0) ∧ W.cell? ⟨g, 6, none⟩ = some (.bool false) ∧ W.cell? ⟨g, 7, none⟩ = some (.string { data := #[] }))
  (first
   |assumption
   |exact HC.out _ ((Touch.refl _ _).drew)
   |exact HC.out _ (((Touch.refl _ _).alloc _).drew))
  (first
   |(go_simp; go_at_call 149; (with_reducible refine (HN.out _).mono ?_); rintro e w' ⟨rfl, rfl⟩)
   |(go_simp; go_at_call 149; (with_reducible refine (H0.out _).mono ?_); rintro e w' ⟨rfl, rfl⟩))
 all_goals
  rename_i hH
  clear hH HC
  have HX2 : Hid (FB (FF w) [g, g + 1, w1.heap.size] w (w1.alloc (.cells #[.int .i64 1, .int .i64 5, .int .u32 n, .int .u32 0, .int .u32 0, .slice none 0 0, .bool false, .string { data := #[] }] 58)).drew [⟨g, 139, pdL n⟩, ⟨g + 1, 58, uuZ⟩, ⟨w1.heap.size, 58, [.int .i64 1, .int .i64 5, .int .u32 n, .int .u32 0, .int .u32 0, .slice none 0 0, .bool false, .string { data := #[] }]⟩]) := (HX.out.al 58 [.int .i64 1, .int .i64 5, .int .u32 n, .int .u32 0, .int .u32 0, .slice none 0 0, .bool false, .string { data := #[] }] w1.heap.size rfl).fresh (Touch.refl _ _).drew
  clear HX
  generalize (w1.alloc (.cells #[.int .i64 1, .int .i64 5, .int .u32 n, .int .u32 0, .int .u32 0, .slice none 0 0, .bool false, .string { data := #[] }] 58)).drew = w2 at *
  generalize w1.heap.size = b at *
  have HX := HX2
  clear HX2
  have l5 : w2.cell? ⟨g, 5, none⟩ = some (.slice none 0 0) := (HX.out.at_ 0 rfl).cell 5
  go_upto_block 0 with (fail)
  go_cut [27] (fun v wx => wx = w2)
  case first =>
   go_wp2_with fail
   go_loopw [27] (fun i wr => i = .int .i64 0 ∧ wr = w2) (fun i _ => 0)
   case atStart => exact ⟨rfl, rfl⟩
   case round =>
    obtain ⟨rfl, rfl⟩ := hrel
    go_wp2
    go_meet
    case rel => trivial
  case rest =>
  obtain rfl := hcut
  go_upto_region 7 with (fail)
  refine wp_region_lit ?_
  refine wpList_loadB rfl _ (.tmp 3) rfl b 0 (by rfl) [.int .i64 1, .int .i64 5, .int .u32 n, .int .u32 0, .int .u32 0, .slice none 0 0, .bool false, .string { data := #[] }] (HX.out.at_ 2 rfl).range Tryz.underlying58 rfl uuI ?_
  refine wpList_storeB rfl _ (.tmp 2) (.tmp 39) rfl (g + 1) 0 (by rfl) [.int .i64 1, .int .i64 5, .int .u32 n, .int .u32 0, .int .u32 0, .slice none 0 0, .bool false, .string { data := #[] }] (by rfl) (HX.out.at_ 1 rfl) (Nat.le_of_ble_eq_true rfl) uuI (by simp [Value.oneCell']) ?_
  intro wb hB ht
  have HX := lh (HX.out.put 1 rfl (cs := [.int .i64 1, .int .i64 5, .int .u32 n, .int .u32 0, .int .u32 0, .slice none 0 0, .bool false, .string { data := #[] }]) (hB.eq_cells rfl) ht)
  clear hB ht
  go_wp2_with fail
  exact bodyPost_ret (v := pduV (bgU n)) (results_c Tryz.results65 _ (by rfl) (HX.out.at_ 1 rfl).range Tryz.underlying58 rfl uuI) rfl ⟨rfl, HX.out.ff⟩

theorem eqSig16 (k c n : Int) (d : ByteArray) (s : Bool) (w : World) : (Op.equalIn 10000 61 (.agg #[.int .i64 k, .string d, .bool s, .int .u8 c, .int .i64 n]) (.agg #[.int .i64 k, .string d, .bool s, .int .u8 c, .int .i64 n])).run Tryz.prog w = .ok true w := by
 have hS : Tryz.prog.underlying 61 = some (.struct (Tryz.prog.fieldsOf 61)) := by kernel_rfl
 have u3 := Tryz.underlying3
 have a3 := Tryz.isAgg3
 have z3 := Tryz.sizeOf3
 have u4 := Tryz.underlying4
 have a4 := Tryz.isAgg4
 have z4 := Tryz.sizeOf4
 have u5 := Tryz.underlying5
 have a5 := Tryz.isAgg5
 have z5 := Tryz.sizeOf5
 have u9 := Tryz.underlying9
 have a9 := Tryz.isAgg9
 have z9 := Tryz.sizeOf9
 rw [show (10000 : Nat) = 9999 + 1 from rfl, run_equalIn_agg w 9999 61 _ _ hS (by kernel_rfl)]
 simp only [Program.fieldsOf, Tryz.underlying61]
 go_simp

theorem Rd.rs16_at {w : World} {A : Option Addr} {c : Nat} {l : List Cn.Sig} (h : Rd rs16E w A c l) (k : Nat) (hk : k < l.length) : ∃ g o, A = some ⟨g, o, none⟩ ∧ g < w.heap.size ∧ ∀ f u, (rs16E.enc l[k])[f]? = some u -> w.cell? ⟨g, o + (k * 5 + f), none⟩ = some u := h.at_ k hk
theorem Rd.psig_at {w : World} {A : Option Addr} {c : Nat} {l : List Cn.Sig} (h : Rd sigE w A c l) (k : Nat) (hk : k < l.length) : ∃ g o, A = some ⟨g, o, none⟩ ∧ g < w.heap.size ∧ ∀ f u, (sigE.enc l[k])[f]? = some u -> w.cell? ⟨g, o + (k * 5 + f), none⟩ = some u := h.at_ k hk

set_option maxRecDepth 100000 in
theorem same16_any {w : World} {l : List Cn.Sig} {A1 B1 : Option Addr} {c1 e1 : Nat} (h1 : Rd sigE w A1 c1 l) (h3 : Rd rs16E w B1 e1 l) (hl : l.length <= 100) :
  Calls Tryz.prog 57 #[.slice A1 l.length c1, .slice B1 l.length e1] w fun e w' => e = .returned (.bool true) ∧ Fresh w w' := by
 have H1 := lh h1
 have H3 := lh h3
 clear h1 h3
 go_enter Tryz.func57, Tryz.ntmps57
 go_wp2_with fail
 go_loopw [14] (fun i wr => ∃ k : Nat, k <= l.length ∧ i = .int .i64 k ∧ Hid (Fresh w wr)) (fun i _ => l.length - (intOf i).toNat)
 case atStart => exact ⟨0, by omega, rfl, Touch.refl _ _⟩
 case round =>
  obtain ⟨k, hk, rfl, ht⟩ := hrel
  by_cases hlt : k < l.length
  ·have HFT : Hid (Fresh w wr) := ht
   obtain ⟨gX, oX, rfl, hgX, hX⟩ := (H3.out.touch HFT.out (fun _ _ _ e => e)).rs16_at k hlt
   obtain ⟨gA, oA, rfl, hgA, hA⟩ := (H1.out.touch HFT.out (fun _ _ _ e => e)).psig_at k hlt
   generalize l[k] = s at *
   have y0 : wr.cell? ⟨gX, oX + k * 5, none⟩ = some (.int .i64 s.kind) := by have := hX 0 _ rfl; simpa [Nat.add_assoc] using this
   have y1 : wr.cell? ⟨gX, oX + k * 5 + 1, none⟩ = some (.string s.data) := by have := hX 1 _ rfl; simpa [Nat.add_assoc] using this
   have y2 : wr.cell? ⟨gX, oX + k * 5 + 2, none⟩ = some (.bool s.self) := by have := hX 2 _ rfl; simpa [Nat.add_assoc] using this
   have y3 : wr.cell? ⟨gX, oX + k * 5 + 3, none⟩ = some (.int .u8 s.code) := by have := hX 3 _ rfl; simpa [Nat.add_assoc] using this
   have y4 : wr.cell? ⟨gX, oX + k * 5 + 4, none⟩ = some (.int .i64 s.n) := by have := hX 4 _ rfl; simpa [Nat.add_assoc] using this
   have hAo : ∀ (o : Obj) f u, (sigE.enc s)[f]? = some u -> (wr.alloc o).cell? ⟨gA, oA + (k * 5 + f), none⟩ = some u := fun o f u h => (World.cell?_of_block (Below.heap_alloc wr o gA hgA)).trans (hA f u h)
   have a0 : ∀ o, (wr.alloc o).cell? ⟨gA, oA + k * 5, none⟩ = some (.int .i64 s.kind) := fun o => by have := hAo o 0 _ rfl; simpa [Nat.add_assoc] using this
   have a1 : ∀ o, (wr.alloc o).cell? ⟨gA, oA + k * 5 + 1, none⟩ = some (.string s.data) := fun o => by have := hAo o 1 _ rfl; simpa [Nat.add_assoc] using this
   have a2 : ∀ o, (wr.alloc o).cell? ⟨gA, oA + k * 5 + 2, none⟩ = some (.bool s.self) := fun o => by have := hAo o 2 _ rfl; simpa [Nat.add_assoc] using this
   have a3 : ∀ o, (wr.alloc o).cell? ⟨gA, oA + k * 5 + 3, none⟩ = some (.int .u8 s.code) := fun o => by have := hAo o 3 _ rfl; simpa [Nat.add_assoc] using this
   have a4 : ∀ o, (wr.alloc o).cell? ⟨gA, oA + k * 5 + 4, none⟩ = some (.int .i64 s.n) := fun o => by have := hAo o 4 _ rfl; simpa [Nat.add_assoc] using this
   have hk0 : (k : Int) < (l.length : Int) := by omega
   have hq := eqSig16
   have HT2 : Hid (∀ o n, Fresh w ((wr.alloc o).drewN n)) := fun o n => (ht.out.alloc o).drewN n
   clear hX hA hAo
   go_upto_region 6 with (fail)
   go_quiet (fail)
   have HT3 := lh (HT2.out (.cells #[.int .i64 s.kind, .string s.data, .bool s.self, .int .u8 s.code, .int .i64 s.n] 143) nq)
   go_wp2
   go_roundw
   case rel => exact ⟨k + 1, by omega, by go_num, HT3⟩
   case measure => simp [intOf]; omega
  ·have hld : decide ((k : Int) < (l.length : Int)) = false := decide_eq_false (by omega)
   go_wp2_with fail
   first
    |(go_ret; exact ⟨rfl, ht.out⟩)
    |(trace_state; sorry)
set_option maxRecDepth 20000
set_option linter.constructorNameAsVariable false

theorem same06_any (kd sq n ps mr : Int) (sf : Bool) (da : ByteArray) (w : World) (hn : 0 <= n ∧ n < 4294967296) (hp : 0 <= ps ∧ ps < 4294967296) (hm : 0 <= mr ∧ mr < 4294967296) :
  Calls Tryz.prog 60 #[.agg #[.int .i64 kd, .int .i64 sq, .int .u32 n, .int .u32 ps, .int .u32 mr, .slice none 0 0, .bool sf, .string da], .agg #[.int .i64 kd, .int .i64 sq, .int .i64 n, .int .i64 ps, .int .i64 mr, .slice none 0 0, .bool sf, .string da]] w fun e w' => e = .returned (.bool true) ∧ Fresh w w' := by
 obtain ⟨w1, hw1⟩ := xq ((w.alloc (.cells (List.toArray [.int .i64 kd, .int .i64 sq, .int .u32 n, .int .u32 ps, .int .u32 mr, .slice none 0 0, .bool sf, .string da]) 58)).alloc (.cells (List.toArray [.int .i64 kd, .int .i64 sq, .int .i64 n, .int .i64 ps, .int .i64 mr, .slice none 0 0, .bool sf, .string da]) 139))
 have HX : Hid (FB (FF w) [w.heap.size, w.heap.size + 1] w w1 [⟨w.heap.size, 58, [.int .i64 kd, .int .i64 sq, .int .u32 n, .int .u32 ps, .int .u32 mr, .slice none 0 0, .bool sf, .string da]⟩, ⟨w.heap.size + 1, 139, [.int .i64 kd, .int .i64 sq, .int .i64 n, .int .i64 ps, .int .i64 mr, .slice none 0 0, .bool sf, .string da]⟩]) := by rw [hw1]; exact (((FB.nil w (fun k e => e)).al _ [.int .i64 kd, .int .i64 sq, .int .u32 n, .int .u32 ps, .int .u32 mr, .slice none 0 0, .bool sf, .string da] _ (by simp)).al _ [.int .i64 kd, .int .i64 sq, .int .i64 n, .int .i64 ps, .int .i64 mr, .slice none 0 0, .bool sf, .string da] _ (by simp))
 obtain ⟨hn0, hn1⟩ := hn
 obtain ⟨hp0, hp1⟩ := hp
 obtain ⟨hm0, hm1⟩ := hm
 go_enter Tryz.func60, Tryz.ntmps60
 go_upto_region 1 with (fail)
 rw [<- hw1]
 clear hw1
 generalize hg : w.heap.size = g at *
 have d0 : w1.cell? ⟨g, 0, none⟩ = some (.int .i64 kd) := (HX.out.at_ 0 rfl).cell 0
 have d1 : w1.cell? ⟨g, 1, none⟩ = some (.int .i64 sq) := (HX.out.at_ 0 rfl).cell 1
 have d2 : w1.cell? ⟨g, 2, none⟩ = some (.int .u32 n) := (HX.out.at_ 0 rfl).cell 2
 have d3 : w1.cell? ⟨g, 3, none⟩ = some (.int .u32 ps) := (HX.out.at_ 0 rfl).cell 3
 have d4 : w1.cell? ⟨g, 4, none⟩ = some (.int .u32 mr) := (HX.out.at_ 0 rfl).cell 4
 have d5 : w1.cell? ⟨g, 5, none⟩ = some (.slice none 0 0) := (HX.out.at_ 0 rfl).cell 5
 have d6 : w1.cell? ⟨g, 6, none⟩ = some (.bool sf) := (HX.out.at_ 0 rfl).cell 6
 have d7 : w1.cell? ⟨g, 7, none⟩ = some (.string da) := (HX.out.at_ 0 rfl).cell 7
 have e0 : w1.cell? ⟨g + 1, 0, none⟩ = some (.int .i64 kd) := (HX.out.at_ 1 rfl).cell 0
 have e1 : w1.cell? ⟨g + 1, 1, none⟩ = some (.int .i64 sq) := (HX.out.at_ 1 rfl).cell 1
 have e2 : w1.cell? ⟨g + 1, 2, none⟩ = some (.int .i64 n) := (HX.out.at_ 1 rfl).cell 2
 have e3 : w1.cell? ⟨g + 1, 3, none⟩ = some (.int .i64 ps) := (HX.out.at_ 1 rfl).cell 3
 have e4 : w1.cell? ⟨g + 1, 4, none⟩ = some (.int .i64 mr) := (HX.out.at_ 1 rfl).cell 4
 have e5 : w1.cell? ⟨g + 1, 5, none⟩ = some (.slice none 0 0) := (HX.out.at_ 1 rfl).cell 5
 have e6 : w1.cell? ⟨g + 1, 6, none⟩ = some (.bool sf) := (HX.out.at_ 1 rfl).cell 6
 have e7 : w1.cell? ⟨g + 1, 7, none⟩ = some (.string da) := (HX.out.at_ 1 rfl).cell 7
 go_upto_block 0 with (fail)
 go_cut [69] (fun v wx => wx = w1)
 case first =>
  go_wp2_with fail
  go_loopw [69] (fun i wr => i = .int .i64 0 ∧ wr = w1) (fun i _ => 0)
  case atStart => exact ⟨rfl, rfl⟩
  case round =>
   obtain ⟨rfl, rfl⟩ := hrel
   go_wp2
   go_meet
   case rel => trivial
 case rest =>
 obtain rfl := hcut
 go_wp2_with fail
 go_ret
 exact ⟨rfl, HX.out.ff⟩
end Go.Proofs.YtipaobpmojahaaaGreat
