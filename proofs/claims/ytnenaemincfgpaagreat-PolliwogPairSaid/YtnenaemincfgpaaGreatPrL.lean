/-
  polliwogtop.PolliwogPair: the walk. No conditions.
-/
import Derived.Test.YtnenaemincfgpaaGreatPrH
import Derived.Test.YtnenaemincfgpaaGreatPrG
import Derived.Deep.RegionHeld3
set_option maxHeartbeats 16000000
namespace Go.Proofs.YtnenaemincfgpaaGreat
open Go.RowKit
set_option maxRecDepth 20000
set_option linter.constructorNameAsVariable false

def R16 (n0 : Nat) (x0 x1 x2 x3 x4 x5 : Int) (r : List Value) (w : World) : Prop :=
 ∃ g c0 c1 c2 c3 c4, r = [.int .i64 (max 1 (min x0 16)), .int .i64 (max 1 (min x1 64)), .int .i64 (max 1 (min x2 256)), .int .i64 (max 1 (min x3 64)), .int .i64 (max 1 (min x4 256)), .int .i64 (x5 % 16777216), .slice (some ⟨g, 0, none⟩) 5 5] ∧ Sl intE w (some ⟨g, 0, none⟩) 5 [c0, c1, c2, c3, c4] ∧ GoodC c0 c1 c2 c3 c4 ∧ n0 <= g
section
variable {n0 : Nat} {x0 x1 x2 x3 x4 x5 : Int} {r : List Value} {w w' : World}
theorem R16.touch {T : Nat -> Prop} (h : R16 n0 x0 x1 x2 x3 x4 x5 r w) (ht : Touch T w w') (hT : ∀ b, T b -> b < n0) : R16 n0 x0 x1 x2 x3 x4 x5 r w' := by
 obtain ⟨g, c0, c1, c2, c3, c4, h1, h2, h3, h4⟩ := h
 exact ⟨g, c0, c1, c2, c3, c4, h1, h2.touch ht (fun ad e e2 => by injection e with e; subst e; have h5 : g < n0 := hT _ e2; omega), h3, h4⟩
theorem R16.cells (h : R16 n0 x0 x1 x2 x3 x4 x5 r w) : r.length = 7 ∧ ∀ v ∈ r, v.oneCell' = true := by
 obtain ⟨g, c0, c1, c2, c3, c4, rfl, -⟩ := h
 exact ⟨rfl, by simp [Value.oneCell']⟩
end
def cut5 (v : ByteArray) : ByteArray := if 5 < v.size then v.extract 0 5 else v
theorem polliwogPair.core (x0 x1 x2 x3 x4 x5 : Int) (A : Option Addr) (c : Nat) (L : List Int) (y0 y1 y2 y3 y4 y5 : Int) (A2 : Option Addr) (c2 : Nat) (L2 : List Int) (Am : Option Addr) (cm : Nat) (M : List ByteArray) (w : World) (h : Rd intE w A c L) (h2 : Rd intE w A2 c2 L2) (hM : Rd strE w Am cm M) (hMs : ∀ v ∈ M, v.size <= maxLen) :
  Calls Tryz.prog 3 #[.agg #[.int .i64 x0, .int .i64 x1, .int .i64 x2, .int .i64 x3, .int .i64 x4, .int .i64 x5, .slice A L.length c], .agg #[.int .i64 y0, .int .i64 y1, .int .i64 y2, .int .i64 y3, .int .i64 y4, .int .i64 y5, .slice A2 L2.length c2], .slice Am M.length cm] w fun e w' => e = .returned (.bool true) ∧ Fresh w w' := by
 have HR := lh h
 have HR2 := lh h2
 have HM := lh hM
 have HMS := lh hMs
 clear h h2 hM hMs
 go_enter Tryz.func3, Tryz.ntmps3
 go_upto_region 1 with (fail)
 obtain ⟨w1, hw1⟩ := xq ((w.alloc (.cells #[.int .i64 x0, .int .i64 x1, .int .i64 x2, .int .i64 x3, .int .i64 x4, .int .i64 x5, .slice A L.length c] 24)).alloc (.cells #[.int .i64 y0, .int .i64 y1, .int .i64 y2, .int .i64 y3, .int .i64 y4, .int .i64 y5, .slice A2 L2.length c2] 24))
 obtain ⟨bc, hbc⟩ := xq w.heap.size
 obtain ⟨bd, hbd⟩ := xq (w.heap.size + 1)
 rw [<- hw1, <- hbd, <- hbc]
 have hf1 : Fresh w w1 := by rw [hw1]; exact ((Touch.refl _ _).alloc _).alloc _
 have hsz : w1.heap.size = w.heap.size + 2 := by rw [hw1]; simp
 have hB1 : Blk w1 bc 24 [.int .i64 x0, .int .i64 x1, .int .i64 x2, .int .i64 x3, .int .i64 x4, .int .i64 x5, .slice A L.length c] := by rw [hw1, hbc]; exact (Blk.new w _ _).alloc _
 have hB2 : Blk w1 bd 24 [.int .i64 y0, .int .i64 y1, .int .i64 y2, .int .i64 y3, .int .i64 y4, .int .i64 y5, .slice A2 L2.length c2] := by
  have := Blk.new (w.alloc (.cells #[.int .i64 x0, .int .i64 x1, .int .i64 x2, .int .i64 x3, .int .i64 x4, .int .i64 x5, .slice A L.length c] 24)) 24 [.int .i64 y0, .int .i64 y1, .int .i64 y2, .int .i64 y3, .int .i64 y4, .int .i64 y5, .slice A2 L2.length c2]
  rw [hw1, hbd]
  simpa using this
 have hbd2 : bc ≠ bd ∧ bc < w.heap.size + 2 ∧ bd < w.heap.size + 2 ∧ w.heap.size <= bc ∧ w.heap.size <= bd := by omega
 have hkb : ∀ b, (b = bc ∨ b = bd) -> b < w.heap.size + 2 := fun b e => by omega
 refine Dag.turn2 (F := 4) (T := 24) (b1 := bc) (b2 := bd) (cs := [.int .i64 x0, .int .i64 x1, .int .i64 x2, .int .i64 x3, .int .i64 x4, .int .i64 x5, .slice A L.length c]) (ds := [.int .i64 y0, .int .i64 y1, .int .i64 y2, .int .i64 y3, .int .i64 y4, .int .i64 y5, .slice A2 L2.length c2]) (s0 := 19) (s1 := 20) (s2 := 21) (s3 := 22) (x1 := 3) (x2 := 4) (by kernel_rfl) _ _ _ _ _ _ (R16 (w.heap.size + 2) x0 x1 x2 x3 x4 x5) (R16 (w.heap.size + 2) y0 y1 y2 y3 y4 y5) rfl rfl rfl rfl rfl rfl rfl rfl rfl rfl rfl rfl rfl ?_ rfl ?_ rfl rfl (by decide +kernel) (by decide +kernel) (by decide +kernel) (by decide +kernel) (by decide +kernel) (by decide +kernel) (by decide +kernel) (by decide) ⟨Nat.le_of_ble_eq_true rfl, Nat.le_of_ble_eq_true rfl, Nat.le_of_ble_eq_true rfl, Nat.le_of_ble_eq_true rfl⟩ (by decide) (by decide) rfl rfl ?_ ?_ ?_ ?_ Tryz.underlying24 rfl ?_ ?_ ?_ ?_ ?_ ?_ ?_ ?_ ?_
 ·intro B v hv W hF
  unfold execOp
  generalize B.eval = ρ at *
  go_simp
 ·intro B v hv W hF
  unfold execOp
  generalize B.eval = ρ at *
  go_simp
 ·exact fun _ => rfl
 ·exact hB1
 ·exact hB2
 ·exact hbd2.1
 ·kernel_rfl
 ·kernel_rfl
 ·intro W hW
  refine (right16_any x0 x1 x2 x3 x4 x5 A c L W ((HR.out.touch hf1 (fun _ _ _ e => e)).touch hW (fun ad e e1 e2 => by have h1 := HR.out.lt e1 ad e; omega))).mono ?_
  rintro e W' ⟨g, c0, c1, c2, c3, c4, rfl, h1, h2, h3, h4⟩
  exact ⟨_, rfl, ⟨g, c0, c1, c2, c3, c4, rfl, h1, h2, by have := hW.size; omega⟩, h3⟩
 ·intro W hW
  refine (right16_any y0 y1 y2 y3 y4 y5 A2 c2 L2 W ((HR2.out.touch hf1 (fun _ _ _ e => e)).touch hW (fun ad e e1 e2 => by have h1 := HR2.out.lt e1 ad e; omega))).mono ?_
  rintro e W' ⟨g, c0, c1, c2, c3, c4, rfl, h1, h2, h3, h4⟩
  exact ⟨_, rfl, ⟨g, c0, c1, c2, c3, c4, rfl, h1, h2, by have := hW.size; omega⟩, h3⟩
 ·exact fun r W W' h ht => h.touch ht hkb
 ·exact fun r W W' h ht => h.touch ht hkb
 ·exact fun r W h => h.cells
 ·exact fun r W h => h.cells
 intro r1 r2 w2 hr1 hr2 hk1 hk2 ht2
 clear hw1 hB1 hB2
 obtain ⟨g1, a0, a1, a2, a3, a4, rfl, hs1, hg1, hl1⟩ := hr1
 obtain ⟨g2, d0, d1, d2, d3, d4, rfl, hs2, hg2, hl2⟩ := hr2
 have HF2 : Hid (Fresh w w2) := hf1.trans ht2 (fun b hb e => by omega)
 have u5 : w2.cell? ⟨bc, 5, none⟩ = some (.int .i64 (x5 % 16777216)) := hk1.cell 5
 have v5 : w2.cell? ⟨bd, 5, none⟩ = some (.int .i64 (y5 % 16777216)) := hk2.cell 5
 have f5 : w2.frozen? ⟨bd, 5, none⟩ = false := hk2.frozen 5
 have HK1 := lh hk1
 have HK2 := lh hk2
 have HS1 := lh hs1
 have HS2 := lh hs2
 have HBD := lh hbd2
 clear hk1 hk2 hs1 hs2 ht2 hf1 hbc hbd hsz hkb hbd2
 go_upto_region 3 with (fail)
 obtain ⟨w3, hw3⟩ := xq (w2.setCell ⟨bd, 5, none⟩ (.int .i64 (x5 % 16777216)))
 rw [<- hw3]
 have ht3 : Touch (· = bd) w2 w3 := by rw [hw3]; exact Touch.set1 w2 bd 5 _
 have HF3 : Hid (Fresh w w3) := HF2.out.trans ht3 (fun b hb e => by have e : b = bd := e; have := HBD.out; omega)
 have HK13 := lh (ht3.blk HK1.out (show ¬ bc = bd from HBD.out.1))
 have HK23 : Hid (Blk w3 bd 24 [.int .i64 (max 1 (min y0 16)), .int .i64 (max 1 (min y1 64)), .int .i64 (max 1 (min y2 256)), .int .i64 (max 1 (min y3 64)), .int .i64 (max 1 (min y4 256)), .int .i64 (x5 % 16777216), .slice (some ⟨g2, 0, none⟩) 5 5]) := by rw [hw3]; exact HK2.out.set 5 _
 have HS13 := lh (HS1.out.touch ht3 (fun ad e e2 => by injection e with e; subst e; have e2 : g1 = bd := e2; have := HBD.out; omega))
 have HS23 := lh (HS2.out.touch ht3 (fun ad e e2 => by injection e with e; subst e; have e2 : g2 = bd := e2; have := HBD.out; omega))
 have HBL : Hid (bc < w3.heap.size ∧ bd < w3.heap.size) := ⟨HK13.out.lt, HK23.out.lt⟩
 have HSZ : Hid (w3.heap.size <= w3.heap.size) := Nat.le_refl _
 clear hw3 ht3 HK1 HK2 HS1 HS2 u5 v5 f5 HF2
 have HC1 : Hid (∀ W, Fresh w3 W -> Calls Tryz.prog 5 #[.agg #[.int .i64 (max 1 (min x0 16)), .int .i64 (max 1 (min x1 64)), .int .i64 (max 1 (min x2 256)), .int .i64 (max 1 (min x3 64)), .int .i64 (max 1 (min x4 256)), .int .i64 (x5 % 16777216), .slice (some ⟨g1, 0, none⟩) 5 5]] W fun e w' => ∃ n q, e = .returned (.pointer (some ⟨n, 0, none⟩)) ∧ NodeNw W w' n (Nd.S.new q) ∧ (Pr.CG q ∧ q.start % 16777216 = x5 % 16777216 ∧ q.window = max 1 (min x1 64))) := fun W hW => by
  refine (nstart_any (max 1 (min x0 16)) (max 1 (min x1 64)) (max 1 (min x2 256)) (max 1 (min x3 64)) (max 1 (min x4 256)) (x5 % 16777216) (some ⟨g1, 0, none⟩) 5 _ W (Sl.rd (HS13.out.touch hW (fun _ _ e => e)))).mono ?_
  rintro e w' ⟨n, c0, c1, c2, c3, c4, rfl, hg, hn⟩
  refine ⟨n, _, rfl, hn, ⟨hg, ?_⟩, ?_, ?_⟩
  ·show 1 <= max 1 (min (max 1 (min x1 64)) 64) ∧ max 1 (min (max 1 (min x1 64)) 64) <= 64; omega
  ·show x5 % 16777216 % 16777216 % 16777216 = _; omega
  ·show max 1 (min (max 1 (min x1 64)) 64) = _; omega
 have HC2 : Hid (∀ W, Fresh w3 W -> Calls Tryz.prog 5 #[.agg #[.int .i64 (max 1 (min y0 16)), .int .i64 (max 1 (min y1 64)), .int .i64 (max 1 (min y2 256)), .int .i64 (max 1 (min y3 64)), .int .i64 (max 1 (min y4 256)), .int .i64 (x5 % 16777216), .slice (some ⟨g2, 0, none⟩) 5 5]] W fun e w' => ∃ n q, e = .returned (.pointer (some ⟨n, 0, none⟩)) ∧ NodeNw W w' n (Nd.S.new q) ∧ (Pr.CG q ∧ q.start % 16777216 = x5 % 16777216 ∧ q.window = max 1 (min y1 64))) := fun W hW => by
  refine (nstart_any (max 1 (min y0 16)) (max 1 (min y1 64)) (max 1 (min y2 256)) (max 1 (min y3 64)) (max 1 (min y4 256)) (x5 % 16777216) (some ⟨g2, 0, none⟩) 5 _ W (Sl.rd (HS23.out.touch hW (fun _ _ e => e)))).mono ?_
  rintro e w' ⟨n, c0, c1, c2, c3, c4, rfl, hg, hn⟩
  refine ⟨n, _, rfl, hn, ⟨hg, ?_⟩, ?_, ?_⟩
  ·show 1 <= max 1 (min (max 1 (min y1 64)) 64) ∧ max 1 (min (max 1 (min y1 64)) 64) <= 64; omega
  ·show x5 % 16777216 % 16777216 % 16777216 = _; omega
  ·show max 1 (min (max 1 (min y1 64)) 64) = _; omega
 obtain ⟨D0, hD0⟩ : ∃ D0 : Nat -> Nat, D0 = fun k => if k < w3.heap.size then 40 else 35 := ⟨_, rfl⟩
 have HINJ : Hid (∀ i, i < 8 -> ∀ j, j < 8 -> Pr.g3slot i = Pr.g3slot j -> i = j) := by
  show ∀ i, i < 8 -> ∀ j, j < 8 -> Pr.g3slot i = Pr.g3slot j -> i = j
  decide +kernel
 have HFD : Hid (∀ k, k ∈ Pr.g3D -> Pr.g3idx k < 8 ∧ Pr.g3slot (Pr.g3idx k) = k) := by
  show ∀ k, k ∈ Pr.g3D -> Pr.g3idx k < 8 ∧ Pr.g3slot (Pr.g3idx k) = k
  decide +kernel
 have hq0 : Pr.G3 := ⟨0, 0, 0, 0, ⟨0, 0, 0, 0, 0, 0, 0, 0, 0, 0, 0⟩, ⟨0, 0, 0, 0, 0, 0, 0, 0, 0, 0, 0⟩⟩
 refine Dag.detP (by kernel_rfl) 8 Pr.g3D Pr.g3slot (Pr.g3val (.agg #[.int .i64 (max 1 (min x0 16)), .int .i64 (max 1 (min x1 64)), .int .i64 (max 1 (min x2 256)), .int .i64 (max 1 (min x3 64)), .int .i64 (max 1 (min x4 256)), .int .i64 (x5 % 16777216), .slice (some ⟨g1, 0, none⟩) 5 5]) (.agg #[.int .i64 (max 1 (min y0 16)), .int .i64 (max 1 (min y1 64)), .int .i64 (max 1 (min y2 256)), .int .i64 (max 1 (min y3 64)), .int .i64 (max 1 (min y4 256)), .int .i64 (x5 % 16777216), .slice (some ⟨g2, 0, none⟩) 5 5])) (Pr.G3W w3 w3 bc bd _ _ (fun q => Pr.CG q ∧ q.start % 16777216 = x5 % 16777216 ∧ q.window = max 1 (min x1 64)) (fun q => Pr.CG q ∧ q.start % 16777216 = x5 % 16777216 ∧ q.window = max 1 (min y1 64))) hq0 (fun b k => Pr.g3val _ _ b (Pr.g3idx k)) (by rfl) (fun i j hi hj => HINJ.out i hi j hj) (by decide +kernel)
  ⟨(Touch.refl _ _).drew, (Touch.refl (fun _ => False) w3).drew.blk HK13.out (fun e => e), (Touch.refl (fun _ => False) w3).drew.blk HK23.out (fun e => e), D0, fun k hk => (by rw [hD0]; exact if_pos hk), fun e => (by cases e), fun e => (by cases e), fun e => (by cases e), fun e => (by cases e), fun e => (by cases e)⟩ (by decide +kernel) ⟨?_, ?_, ?_, ?_, ?_, ?_, ?_, ?_, trivial⟩ (fun b k hk => ⟨Pr.g3idx k, (HFD.out k hk).1, (HFD.out k hk).2, rfl⟩) ?_
 ·exact ⟨rfl, fun s hs => (by cases hs; exact ⟨rfl, by decide⟩), fun b dn R W hi hp hcl hm hW => .value 26 rfl _ W (exec_loadB rfl ((hm.old 3 (by decide)).trans rfl) hW.c1.range Tryz.underlying24 rfl (by kernel_rfl)) ⟨b, rfl, fun _ _ _ => rfl, hW.read (.inl rfl)⟩⟩
 ·refine ⟨rfl, fun s hs => (by cases hs; exact ⟨rfl, by decide⟩), fun b dn R W hi hp hcl hm hW => ?_⟩
  have q26 : R.eval (.tmp 26) = .agg #[.int .i64 (max 1 (min x0 16)), .int .i64 (max 1 (min x1 64)), .int .i64 (max 1 (min x2 256)), .int .i64 (max 1 (min x3 64)), .int .i64 (max 1 (min x4 256)), .int .i64 (x5 % 16777216), .slice (some ⟨g1, 0, none⟩) 5 5] := hm.got 0 (by decide) (hp 0 (by decide +kernel)) (by decide) (by show (26 : Nat) < 153; decide)
  have qf : R.eval (.func 5) = .func (.func 5) #[] #[] := hm.cst _ (fun k e => by cases e)
  have hst : ¬ dn 6 = true := fun h => by have := hcl 6 1 (by decide +kernel) h; rw [hi] at this; cases this
  refine .call 27 rfl 5 #[.agg #[.int .i64 (max 1 (min x0 16)), .int .i64 (max 1 (min x1 64)), .int .i64 (max 1 (min x2 256)), .int .i64 (max 1 (min x3 64)), .int .i64 (max 1 (min x4 256)), .int .i64 (x5 % 16777216), .slice (some ⟨g1, 0, none⟩) 5 5]] ?_ ((HC1.out W hW.fr).mono ?_)
  ·clear hi hp hcl hm hW hst
   unfold execOp
   generalize R.eval = ρ at *
   go_simp
  ·rintro e W' ⟨n, q, rfl, hn, hk⟩
   refine ⟨_, rfl, { b with n1 := n, q1 := q }, rfl, fun j hj hdj => ?_, hW.call1 hk HSZ.out hn hst⟩
   rcases (show j = 0 ∨ j = 1 ∨ j = 2 ∨ j = 3 ∨ j = 4 ∨ j = 5 ∨ 6 <= j by omega) with rfl | rfl | rfl | rfl | rfl | rfl | h6 <;> first | rfl | (rw [hi] at hdj; cases hdj) | (obtain ⟨k, rfl⟩ : ∃ k, j = k + 6 := ⟨j - 6, by omega⟩; rfl)
 ·exact ⟨rfl, fun s hs => (by cases hs; exact ⟨rfl, by decide⟩), fun b dn R W hi hp hcl hm hW => .value 28 rfl _ W (exec_loadB rfl ((hm.old 4 (by decide)).trans rfl) hW.c2.range Tryz.underlying24 rfl (by kernel_rfl)) ⟨b, rfl, fun _ _ _ => rfl, hW.read (.inr rfl)⟩⟩
 ·refine ⟨rfl, fun s hs => (by cases hs; exact ⟨rfl, by decide⟩), fun b dn R W hi hp hcl hm hW => ?_⟩
  have q28 : R.eval (.tmp 28) = .agg #[.int .i64 (max 1 (min y0 16)), .int .i64 (max 1 (min y1 64)), .int .i64 (max 1 (min y2 256)), .int .i64 (max 1 (min y3 64)), .int .i64 (max 1 (min y4 256)), .int .i64 (x5 % 16777216), .slice (some ⟨g2, 0, none⟩) 5 5] := hm.got 2 (by decide) (hp 2 (by decide +kernel)) (by decide) (by show (28 : Nat) < 153; decide)
  have qf : R.eval (.func 5) = .func (.func 5) #[] #[] := hm.cst _ (fun k e => by cases e)
  have hst : ¬ dn 7 = true := fun h => by have := hcl 7 3 (by decide +kernel) h; rw [hi] at this; cases this
  refine .call 29 rfl 5 #[.agg #[.int .i64 (max 1 (min y0 16)), .int .i64 (max 1 (min y1 64)), .int .i64 (max 1 (min y2 256)), .int .i64 (max 1 (min y3 64)), .int .i64 (max 1 (min y4 256)), .int .i64 (x5 % 16777216), .slice (some ⟨g2, 0, none⟩) 5 5]] ?_ ((HC2.out W hW.fr).mono ?_)
  ·clear hi hp hcl hm hW hst
   unfold execOp
   generalize R.eval = ρ at *
   go_simp
  ·rintro e W' ⟨n, q, rfl, hn, hk⟩
   refine ⟨_, rfl, { b with n2 := n, q2 := q }, rfl, fun j hj hdj => ?_, hW.call2 hk HSZ.out hn hst⟩
   rcases (show j = 0 ∨ j = 1 ∨ j = 2 ∨ j = 3 ∨ j = 4 ∨ j = 5 ∨ 6 <= j by omega) with rfl | rfl | rfl | rfl | rfl | rfl | h6 <;> first | rfl | (rw [hi] at hdj; cases hdj) | (obtain ⟨k, rfl⟩ : ∃ k, j = k + 6 := ⟨j - 6, by omega⟩; rfl)
 ·refine ⟨rfl, fun s hs => (by cases hs; exact ⟨rfl, by decide⟩), fun b dn R W hi hp hcl hm hW => ?_⟩
  have hst : ¬ dn 6 = true := fun h => by have := hcl 6 4 (by decide +kernel) h; rw [hi] at this; cases this
  refine .value 7 rfl (.pointer (some ⟨W.heap.size, 0, none⟩)) (W.alloc (.cells #[.pointer none] 27)) ?_ ⟨{ b with p7 := W.heap.size }, rfl, fun j hj hdj => ?_, hW.box1 HSZ.out hst⟩
  ·clear hi hp hcl hm hW hst
   unfold execOp
   generalize R.eval = ρ at *
   go_simp
   try rfl
  ·rcases (show j = 0 ∨ j = 1 ∨ j = 2 ∨ j = 3 ∨ j = 4 ∨ j = 5 ∨ 6 <= j by omega) with rfl | rfl | rfl | rfl | rfl | rfl | h6 <;> first | rfl | (rw [hi] at hdj; cases hdj) | (obtain ⟨k, rfl⟩ : ∃ k, j = k + 6 := ⟨j - 6, by omega⟩; rfl)
 ·refine ⟨rfl, fun s hs => (by cases hs; exact ⟨rfl, by decide⟩), fun b dn R W hi hp hcl hm hW => ?_⟩
  have hst : ¬ dn 7 = true := fun h => by have := hcl 7 5 (by decide +kernel) h; rw [hi] at this; cases this
  refine .value 8 rfl (.pointer (some ⟨W.heap.size, 0, none⟩)) (W.alloc (.cells #[.pointer none] 27)) ?_ ⟨{ b with p8 := W.heap.size }, rfl, fun j hj hdj => ?_, hW.box2 HSZ.out hst⟩
  ·clear hi hp hcl hm hW hst
   unfold execOp
   generalize R.eval = ρ at *
   go_simp
   try rfl
  ·rcases (show j = 0 ∨ j = 1 ∨ j = 2 ∨ j = 3 ∨ j = 4 ∨ j = 5 ∨ 6 <= j by omega) with rfl | rfl | rfl | rfl | rfl | rfl | h6 <;> first | rfl | (rw [hi] at hdj; cases hdj) | (obtain ⟨k, rfl⟩ : ∃ k, j = k + 6 := ⟨j - 6, by omega⟩; rfl)
 ·refine ⟨rfl, fun s hs => (by cases hs), fun b dn R W hi hp hcl hm hW => ?_⟩
  have q7 : R.eval (.tmp 7) = .pointer (some ⟨b.p7, 0, none⟩) := hm.got 4 (by decide) (hp 4 (by decide +kernel)) (by decide) (by show (7 : Nat) < 153; decide)
  have q27 : R.eval (.tmp 27) = .pointer (some ⟨b.n1, 0, none⟩) := hm.got 1 (by decide) (hp 1 (by decide +kernel)) (by decide) (by show (27 : Nat) < 153; decide)
  have hbl : Blk W b.p7 27 [.pointer none] := by
   obtain ⟨D, -, -, -, e4, -, -⟩ := hW.ex
   have := (e4 (hp 4 (by decide +kernel))).1
   rw [if_neg (by rw [hi]; decide)] at this
   exact this
  have v0 := hbl.cell 0
  have f0 := hbl.frozen 0
  refine .skip rfl undef (W.setCell ⟨b.p7, 0, none⟩ (.pointer (some ⟨b.n1, 0, none⟩))) ?_ ⟨b, rfl, fun _ _ _ => rfl, hW.put1 HBL.out (hp 4 (by decide +kernel))⟩
  clear hi hp hcl hm hW hbl
  unfold execOp
  generalize R.eval = ρ at *
  generalize b.p7 = pb at *
  go_simp
 ·refine ⟨rfl, fun s hs => (by cases hs), fun b dn R W hi hp hcl hm hW => ?_⟩
  have q8 : R.eval (.tmp 8) = .pointer (some ⟨b.p8, 0, none⟩) := hm.got 5 (by decide) (hp 5 (by decide +kernel)) (by decide) (by show (8 : Nat) < 153; decide)
  have q29 : R.eval (.tmp 29) = .pointer (some ⟨b.n2, 0, none⟩) := hm.got 3 (by decide) (hp 3 (by decide +kernel)) (by decide) (by show (29 : Nat) < 153; decide)
  have hbl : Blk W b.p8 27 [.pointer none] := by
   obtain ⟨D, -, -, -, -, e4, -⟩ := hW.ex
   have := (e4 (hp 5 (by decide +kernel))).1
   rw [if_neg (by rw [hi]; decide)] at this
   exact this
  have v0 := hbl.cell 0
  have f0 := hbl.frozen 0
  refine .skip rfl undef (W.setCell ⟨b.p8, 0, none⟩ (.pointer (some ⟨b.n2, 0, none⟩))) ?_ ⟨b, rfl, fun _ _ _ => rfl, hW.put2 HBL.out (hp 5 (by decide +kernel))⟩
  clear hi hp hcl hm hW hbl
  unfold execOp
  generalize R.eval = ρ at *
  generalize b.p8 = pb at *
  go_simp
 ·intro b dn w4 hd hW
  have hbc := hW.c2
  have hfr := hW.fr
  obtain ⟨D, e1, e2, e3, e4, e5, e6⟩ := hW.ex
  obtain ⟨ha, hka, hsa, hwa⟩ := e2 (hd 1 (by decide))
  obtain ⟨hb, hkb, hsb, hwb⟩ := e3 (hd 3 (by decide))
  have h7 := e4 (hd 4 (by decide))
  have h8 := e5 (hd 5 (by decide))
  have h78 := e6 (hd 4 (by decide)) (hd 5 (by decide))
  rw [if_pos (hd 6 (by decide))] at h7
  rw [if_pos (hd 7 (by decide))] at h8
  clear hW hd e2 e3 e4 e5 e6 HINJ HFD HC1 HC2 HS13 HS23 HK13
  obtain ⟨na, nb, pa, pb, qa, qb⟩ := b
  dsimp only at ha hka hsa hwa hb hkb hsb hwb h7 h8 h78
  have HT := lh (show Two 0 16 D w4 na nb (En.new qa) (En.new qb) from ⟨ha, hb, .inl ⟨rfl, rfl⟩⟩)
  have HBA : Hid (Blk w4 pa 27 [.pointer (some ⟨na, 0, none⟩)] ∧ D pa = 33) := ⟨h7.1, h7.2.1⟩
  have HBB : Hid (Blk w4 pb 27 [.pointer (some ⟨nb, 0, none⟩)] ∧ D pb = 33) := ⟨h8.1, h8.2.1⟩
  have HKB : Hid (∀ b, b < w3.heap.size -> D b = 40) := e1
  have HFR := lh hfr
  have HQ : Hid (Pr.CG qa ∧ Pr.CG qb ∧ qb.start % 16777216 = qa.start % 16777216 ∧ (qb.start + qb.window) % 16777216 = (x5 % 16777216 + max 1 (min y1 64)) % 16777216) := ⟨hka, hkb, by rw [hsa, hsb], by rw [hwb]; omega⟩
  have HDD : Hid (∀ wx, Fresh w3 wx -> wx.cell? ⟨bd, 5, none⟩ = some (.int .i64 (x5 % 16777216)) ∧ wx.cell? ⟨bd, 1, none⟩ = some (.int .i64 (max 1 (min y1 64)))) := fun wx hw => ⟨(hw.blk HK23.out (fun e => e)).cell 5, (hw.blk HK23.out (fun e => e)).cell 1⟩
  have HSX : Hid (x5 % 16777216 % 16777216 = x5 % 16777216) := by show _ = _; omega
  generalize x5 % 16777216 = sx at HQ HDD HSX
  generalize max 1 (min y1 64) = wy at HQ HDD
  have a1 : w4.cell? ⟨pa, 0, none⟩ = some (.pointer (some ⟨na, 0, none⟩)) := h7.1.cell 0
  have b1 : w4.cell? ⟨pb, 0, none⟩ = some (.pointer (some ⟨nb, 0, none⟩)) := h8.1.cell 0
  have HBDL : Hid (bd < w3.heap.size) := HBL.out.2
  clear ha hb h7 h8 h78 hka hsa hwa hkb hsb hwb hfr hbc HK23 HBL e1 HBD hg1 hg2
  simp only [Pr.g3D, Dag.actOf, List.foldl_cons, List.foldl_nil, Pr.g3val, Pr.g3idx, Pr.ptr1]
  go_upto_region 7 with (fail)
  obtain ⟨w5, hw5⟩ := xq (w4.alloc (.cells #[.slice none 0 0] 25))
  obtain ⟨pg, hpg⟩ := xq w4.heap.size
  obtain ⟨D5, hD5⟩ := xq (lab D w4.heap.size 34)
  have hf5 : Fresh w4 w5 := by rw [hw5]; exact (Touch.refl _ _).alloc _
  have hl5 : ∀ b, b < w4.heap.size -> D5 b = D b := fun b hb => by rw [hD5]; exact lab_old hb
  have HT5 := lh (HT.out.old hf5 hl5)
  have H35 : Hid (Bx3 ⟨w3, fun b => b < w3.heap.size⟩ D5 w5 pa pb pg na nb none 0 []) :=
   ⟨(HFR.out.trans hf5 (fun _ _ e => e)).mono (fun _ _ e => e.elim), fun b hb => ⟨hb, (hl5 b (Nat.lt_of_lt_of_le hb HFR.out.size)).trans (HKB.out b hb)⟩, ⟨hf5.blk HBA.out.1 (fun e => e), (hl5 _ HBA.out.1.lt).trans HBA.out.2⟩, ⟨hf5.blk HBB.out.1 (fun e => e), (hl5 _ HBB.out.1.lt).trans HBB.out.2⟩, ⟨by rw [hw5, hpg]; exact Blk.new w4 _ _, by rw [hD5, hpg]; exact lab_new (Nat.le_refl _)⟩, Sl.nil _ _, fun ad e => by cases e⟩
  rw [<- hw5, <- hpg]
  clear hw5 hpg hD5 hf5 hl5 HT HBA HBB HKB HFR
  have HRQ : Hid (Calls Tryz.prog 9 #[.pointer (some ⟨na, 0, none⟩), .agg #[.int .i64 1, .string { data := #[] }, .int .i64 0]] w5 (AskPost 0 D5 w5 na (Pr.aAsk qa, [], 0))) := by
   obtain ⟨cn, pc, un, sp, rp, A1, ca1, B1, cb1, hin⟩ := HT5.out.a
   have := nrequest_any hin Pr.fit_new (Nat.zero_le _) 1 Cn.no 0 (Nat.zero_le _)
   rw [show En.request (En.new qa) 1 Cn.no 0 = (Pr.aAsk qa, [], 0) from by unfold Pr.aAsk; rw [Pr.askE]] at this
   exact this
  have a1 : w5.cell? ⟨pa, 0, none⟩ = some (.pointer (some ⟨na, 0, none⟩)) := H35.out.ba.1.cell 0
  go_upto_region 11 with (go_at_call 9; (with_reducible refine HRQ.out.mono ?_); rintro e w6 ⟨D6, A6, c6, rfl, h6, -, -⟩; have HET := lh h6; clear h6; simp only)
  have H6 : Hid (PrAt ⟨w3, fun b => b < w3.heap.size⟩ w6 pa pb pg na nb ⟨Pr.aAsk qa, En.new qb, []⟩) := ⟨D6, none, 0, HT5.out.fst HET.out, H35.out.ch (HET.out.ch (by decide))⟩
  have HLS : Hid (∀ v ∈ M.map cut5, v.size <= 200) := by
   intro v hv
   obtain ⟨m, hm, rfl⟩ := List.mem_map.1 hv
   unfold cut5
   split
   ·rw [ByteArray.size_extract]; omega
   ·omega
  obtain ⟨k1, t1, P1, F1, S1, E1, G1, gt1, t2, az, PM, HAZ, k3, t3, t4, P3, PL, gt4, F4, Q4⟩ := Pr.all_ok HQ.out.1 HQ.out.2.1 HQ.out.2.2.1 HLS.out
  have HP1 := lh (pass_any H6.out P1)
  have HF1 := lh F1
  have HS1 := lh S1
  have HE1 := lh E1
  have HG1 := lh G1
  have HGT1 := lh gt1
  have HPM := lh PM
  have HAZL := lh HAZ
  have HP3 := lh P3
  have HPL := lh PL
  have HGT4 := lh gt4
  have HF4 := lh F4
  have HQ4 := lh Q4
  clear P1 F1 S1 E1 G1 gt1 PM HAZ P3 PL gt4 F4 Q4 H6 HET HT5 H35 HRQ a1 b1
  go_upto_region 12 with (go_at_call 6; (with_reducible refine HP1.out.mono ?_); rintro e w7 ⟨rfl, h7⟩; have H7 := lh h7; clear h7; simp only)
  clear HP1
  obtain ⟨D7, A7, c7, ht7, h37⟩ := H7.out.ex
  have HT7 := lh ht7
  have H37 := lh h37
  clear ht7 h37
  have K7 : Hid (∀ wx, Fresh w7 wx -> wx.cell? ⟨pa, 0, none⟩ = some (.pointer (some ⟨na, 0, none⟩)) ∧ wx.cell? ⟨pb, 0, none⟩ = some (.pointer (some ⟨nb, 0, none⟩)) ∧ wx.cell? ⟨bd, 5, none⟩ = some (.int .i64 sx) ∧ wx.cell? ⟨bd, 1, none⟩ = some (.int .i64 wy)) := fun wx hw => by
   have hw3 : Fresh w3 wx := (H37.out.fr.mono (fun b hb e => e hb)).trans hw (fun _ _ e => e)
   exact ⟨(hw.blk H37.out.ba.1 (fun e => e)).cell 0, (hw.blk H37.out.bb.1 (fun e => e)).cell 0, HDD.out wx hw3⟩
  obtain ⟨ea, hea, hms⟩ := HE1.out
  obtain ⟨ms, hms2⟩ := xq ((sx + wy) % 16777216)
  have hms3 : (Sf.prog ea.1).ms = ms := by rw [hms2, <- HQ.out.2.2.2]; exact hms
  have HVA : Hid (∀ wx, Fresh w7 wx -> Calls Tryz.prog 10 #[.pointer (some ⟨na, 0, none⟩)] wx fun e w' => ∃ A' c', e = .returned (.agg (En.varsC t1.a A' c').toArray) ∧ Fresh wx w') := fun wx hw => by
   obtain ⟨cn, pc, un, sp, rp, A1, ca1, B1, cb1, hin⟩ := HT7.out.a.old hw (fun _ _ => rfl)
   refine (nvars_any hin (fun e he => by rw [HG1.out.1 e he]; exact Nat.zero_le _)).mono ?_
   rintro e w' ⟨A', c', h1, h2, -⟩
   exact ⟨A', c', h1, h2⟩
  have HVB : Hid (∀ wx, Fresh w7 wx -> Calls Tryz.prog 10 #[.pointer (some ⟨nb, 0, none⟩)] wx fun e w' => ∃ A' c', e = .returned (.agg (En.varsC t1.b A' c').toArray) ∧ Fresh wx w') := fun wx hw => by
   obtain ⟨cn, pc, un, sp, rp, A1, ca1, B1, cb1, hin⟩ := HT7.out.b.old hw (fun _ _ => rfl)
   refine (nvars_any hin (fun e he => by rw [HG1.out.2 e he]; exact Nat.zero_le _)).mono ?_
   rintro e w' ⟨A', c', h1, h2, -⟩
   exact ⟨A', c', h1, h2⟩
  have HOF : Hid (∀ wx, Calls Tryz.prog 11 #[.int .i64 sx] wx fun e w' => e = .returned (.int .u32 sx) ∧ w' = wx) := fun wx => by
   have := sof_any sx wx
   rw [HSX.out] at this
   exact this
  have HAD : Hid (∀ wx, Calls Tryz.prog 12 #[.int .u32 sx, .int .i64 wy] wx fun e w' => e = .returned (.int .u32 ms) ∧ w' = wx) := fun wx => by
   rw [hms2]
   exact sadd_any sx wy wx
  have f1 := fun A c W => vars_conn t1.a A c W
  have f2 := fun A c W => vars_conn t1.b A c W
  have f3 := fun A c W => vars_send t1.a ea hea A c W
  have f4 := fun A c W => vars_ms (Sf.prog ea.1) A c W
  have f5 := fun W => vars_state t1.a.conn W
  have f6 := fun W => vars_state t1.b.conn W
  rw [HS1.out.1] at f5
  rw [HS1.out.2] at f6
  rw [hms3] at f4
  clear hms3 hms2 hms hea HE1 HSX HDD
  have FK : Fresh w7 w7.drew := (Touch.refl _ _).drew
  go_region_held3 (fun wx => wx.cell? ⟨pa, 0, none⟩ = some (.pointer (some ⟨na, 0, none⟩)) ∧ wx.cell? ⟨pb, 0, none⟩ = some (.pointer (some ⟨nb, 0, none⟩)) ∧ wx.cell? ⟨bd, 5, none⟩ = some (.int .i64 sx) ∧ wx.cell? ⟨bd, 1, none⟩ = some (.int .i64 wy))
   ((with_reducible refine K7.out _ ?_; with_reducible assumption))
   (first
    |(go_simp; go_at_call 10; (with_reducible refine (HVA.out _ FK).mono ?_); rintro e w8 ⟨A8, c8, rfl, g8⟩; have FK2 : Fresh w7 w8 := FK.trans g8 (fun _ _ e => e); clear FK g8; have FK := FK2; clear FK2)
    |(go_simp; go_at_call 10; (with_reducible refine (HVB.out _ FK).mono ?_); rintro e w8 ⟨A8, c8, rfl, g8⟩; have FK2 : Fresh w7 w8 := FK.trans g8 (fun _ _ e => e); clear FK g8; have FK := FK2; clear FK2)
    |(go_simp; go_at_call 11; (with_reducible refine (HOF.out _).mono ?_); rintro e w8 ⟨rfl, rfl⟩)
    |(go_simp; go_at_call 12; (with_reducible refine (HAD.out _).mono ?_); rintro e w8 ⟨rfl, rfl⟩))
  have HK0 : Hid (∃ D, PrK D w3 w8 pa pb pg na nb t1 none 0 []) := by
   obtain ⟨D, h⟩ := PrK.first H7.out
   exact ⟨D, h.old FK (fun _ _ => rfl)⟩
  clear FK K7 H37 HT7 H7 HVA HVB HOF HAD f1 f2 f3 f4 f5 f6 HS1 HG1 HGT1 HF1 HQ HLS
  have HPA : Hid (∀ wx D t A c az, PrK D w3 wx pa pb pg na nb t A c az -> wx.cell? ⟨pa, 0, none⟩ = some (.pointer (some ⟨na, 0, none⟩)) ∧ wx.cell? ⟨pb, 0, none⟩ = some (.pointer (some ⟨nb, 0, none⟩))) := fun wx D t A c az h => by
   obtain ⟨Ag, cg, h1, h2, h3, h4⟩ := h
   exact ⟨h2.ba.1.cell 0, h2.bb.1.cell 0⟩
  go_upto_block 0 with (fail)
  go_cut [13] (fun v wx => ∃ A c, v = .slice A az.length c ∧ Hid (∃ D, PrK D w3 wx pa pb pg na nb t2 A c az))
  case first =>
   clear HP3 HPL HGT4 HF4 HQ4
   go_wp2_with fail
   go_loopw [14, 13] (fun i v wr => ∃ (j : Nat) (t : Pr.St) (az1 : List ByteArray) (A : Option Addr) (c : Nat), i = .int .i64 j ∧ v = .slice A az1.length c ∧ Hid (∃ D, PrK D w3 wr pa pb pg na nb t A c az1) ∧ Hid (Pr.Ms (M.map cut5) j t az1 t2 az) ∧ j <= 40) (fun i _ _ => 40 - (intOf i).toNat)
   case atStart => exact ⟨0, t1, [], none, 0, rfl, rfl, HK0.out, HPM.out, by omega⟩
   case round =>
    clear HK0 HPM
    obtain ⟨j, t, az1, A1, d1, rfl, rfl, HK, HM1, hj⟩ := hrel
    by_cases hlt : j < M.length ∧ j < 40
    ·obtain ⟨hl1, hl2⟩ := hlt
     have hk1 : (j : Int) < (M.length : Int) := by omega
     have hdk1 : decide ((j : Int) < (M.length : Int)) = true := decide_eq_true hk1
     have hk2 : (j : Int) < 40 := by omega
     have hdk2 : decide ((j : Int) < 40) = true := decide_eq_true hk2
     have hk0 : (0 : Int) <= (j : Int) := by omega
     have HFW : Hid (Fresh w wr) := by
      obtain ⟨D, h⟩ := HK.out
      exact HF3.out.trans h.fresh (fun _ _ e => e)
     obtain ⟨g, o, hAe, _, c0⟩ := (HM.out.touch HFW.out (fun _ _ _ h => h)).str_at j hl1
     have hgd : (M.map cut5).getD j default = cut5 (M.getD j ByteArray.empty) := by
      simp [List.getD, List.getElem?_eq_getElem hl1]
     have HCS : Hid (Pr.Fit1 t.a ∧ az1.length <= j ∧ ((¬ j % 3 = 0 ∧ Pr.Ms (M.map cut5) (j + 1) ⟨Pr.putA t.a (cut5 (M.getD j ByteArray.empty)), t.b, t.got⟩ (Pr.more1 t.a az1 (cut5 (M.getD j ByteArray.empty))) t2 az) ∨ (j % 3 = 0 ∧ ∃ m t5, Pr.Pass m ⟨Pr.putA t.a (cut5 (M.getD j ByteArray.empty)), t.b, t.got⟩ t5 ∧ Pr.Ms (M.map cut5) (j + 1) t5 (Pr.more1 t.a az1 (cut5 (M.getD j ByteArray.empty))) t2 az))) := by
      rw [<- hgd]
      cases HM1.out with
      |stop h => exact absurd ⟨by rw [List.length_map]; exact hl1, hl2⟩ h
      |put h f ha hi hm => exact ⟨f, ha, .inl ⟨hi, hm⟩⟩
      |pass h f ha hi hp hm => exact ⟨f, ha, .inr ⟨hi, _, _, hp, hm⟩⟩
     generalize M.getD j ByteArray.empty = v at c0 HCS
     rw [hAe]
     have HAE := lh hAe
     clear hAe hgd HM1 hl1
     go_upto_if 88 with (fail)
     go_cut [15] (fun y wx => wx = wr ∧ y = .string (cut5 v))
     case first =>
      by_cases hs : 5 < v.size
      ·have hc : cut5 v = v.extract 0 5 := if_pos hs
       have hs1 : (5 : Int) < (v.size : Int) := by omega
       go_wp2_with fail
       go_meet
       case rel => exact ⟨rfl, by rw [hc]⟩
      ·have hc : cut5 v = v := if_neg hs
       have hs1 : ¬ (5 : Int) < (v.size : Int) := by omega
       go_wp2_with fail
       go_meet
       case rel => exact ⟨rfl, by rw [hc]⟩
     case rest =>
     obtain ⟨rfl, rfl⟩ := hcut
     have HCV : Hid ((cut5 v).size <= maxLen) := by
      show _ <= _
      unfold cut5 maxLen
      split
      ·rw [ByteArray.size_extract]; omega
      ·omega
     generalize cut5 v = cv at *
     obtain ⟨D, hK⟩ := HK.out
     obtain ⟨⟨a5, sg5, er5⟩, hrq⟩ : ∃ z, En.request t.a 7 cv 0 = z := ⟨_, rfl⟩
     have HRQ : Hid (Calls Tryz.prog 9 #[.pointer (some ⟨na, 0, none⟩), .agg #[.int .i64 7, .string cv, .int .i64 0]] wc (AskPost 0 D wc na (a5, sg5, er5))) := by
      obtain ⟨Ag, cg, h1, h2, h3, h4⟩ := hK
      obtain ⟨cn, pc, un, sp, rp, A1, ca1, B1, cb1, hin⟩ := h1.a
      obtain ⟨hi, hi2, hf⟩ := HCS.out.1.1
      have := nrequest_any hin hf HCS.out.1.2 7 cv 0 HCV.out
      rw [hrq] at this
      exact this
     have hpa : Pr.putA t.a cv = a5 := by unfold Pr.putA; rw [hrq]
     have hpe : Pr.putE t.a cv = er5 := by unfold Pr.putE; rw [hrq]
     have a1 := (HPA.out _ _ _ _ _ _ hK).1
     have HKD := lh hK
     have HMO : Hid (Pr.more1 t.a az1 cv = if er5 = 0 then az1 ++ [cv] else az1) := by show _ = _; unfold Pr.more1; rw [hpe]
     rw [hpa] at HCS
     have HZL : Hid (az1.length <= 40) := by have := HCS.out.2.1; unfold Hid; omega
     clear hK hpa hpe hrq HK c0 HCV
     generalize Pr.more1 t.a az1 cv = az5 at *
     go_wp2_with fail
     refine HRQ.out.mono ?_
     rintro e w9 ⟨D9, A9, c9, rfl, h9, -, -⟩
     have HK9 := lh (HKD.out.fst h9)
     clear h9 HRQ a1 HKD
     simp only
     go_upto_if 99 with (fail)
     go_cut [13] (fun y wx => ∃ A' c', y = .slice A' az5.length c' ∧ Hid (∃ D, PrK D w3 wx pa pb pg na nb ⟨a5, t.b, t.got⟩ A' c' az5))
     case first =>
      clear HCS
      by_cases he : er5 = 0
      ·subst he
       have HZ : Hid (az5 = az1 ++ [cv]) := by have := HMO.out; rw [if_pos rfl] at this; exact this
       clear HMO
       go_wp2_with (at_builtin; refine app_str rfl rfl (l := az1) (l2 := [cv]) rfl rfl (HK9.out.sl.alloc _) (Sl.rd (Sl.lit strE w9 _ rfl #[.string cv] [cv] rfl 1 rfl (by decide))) (by have := HZL.out; simp; omega) ?_; intro A4 d4 M4 wa hM4 hs4 ht4 hB4)
       obtain rfl : M4 = az5 := by rw [hM4.out, HZ.out]
       have HKA : Hid (∃ D, PrK D w3 wa pa pb pg na nb ⟨a5, t.b, t.got⟩ A4 d4 M4) := (HK9.out.old ((Touch.refl _ _).alloc _) (fun _ _ => rfl)).app hs4 ht4 hB4
       clear hM4 hs4 ht4 hB4 HK9
       go_wp2
       go_meet
       case rel => exact ⟨A4, d4, rfl, HKA⟩
      ·have hq : (er5 == 0) = false := by simpa using he
       obtain rfl : az5 = az1 := by have := HMO.out; rw [if_neg he] at this; exact this
       clear he HMO
       go_wp2_with fail
       go_meet
       case rel => exact ⟨A1, d1, rfl, ⟨_, HK9.out⟩⟩
     case rest =>
     obtain ⟨A6, d6, rfl, HKB⟩ := hcut
     clear HK9 HMO HZL HAE
     have htm : (j : Int).tmod 3 = ((j % 3 : Nat) : Int) := by rw [Int.tmod_eq_emod_of_nonneg (by omega)]; omega
     by_cases h3 : j % 3 = 0
     ·have ht3 : (j : Int).tmod 3 = 0 := by rw [htm, h3]; rfl
      obtain ⟨D6, hK6⟩ := HKB.out
      obtain ⟨m5, t5, p5, q5⟩ : ∃ m t5, Pr.Pass m ⟨a5, t.b, t.got⟩ t5 ∧ Pr.Ms (M.map cut5) (j + 1) t5 az5 t2 az := by
       rcases HCS.out.2.2 with ⟨h, -⟩ | ⟨-, h⟩
       ·exact absurd h3 h
       ·exact h
      have HP5 := lh (pass_any hK6.at_ p5)
      have HK6 := lh hK6
      have HM5 := lh q5
      clear p5 q5 hK6 HKB HCS htm h3
      go_wp2_with fail
      refine HP5.out.mono ?_
      rintro e wb ⟨rfl, hb⟩
      have HKC := lh (HK6.out.back hb)
      clear hb HP5 HK6
      simp only
      go_wp2
      go_roundw
      case rel => exact ⟨j + 1, t5, az5, A6, d6, by go_num, rfl, HKC, HM5, by omega⟩
      case measure => simp [intOf]; omega
     ·have ht3 : (j : Int).tmod 3 = 1 ∨ (j : Int).tmod 3 = 2 := by rw [htm]; omega
      have HM5 : Hid (Pr.Ms (M.map cut5) (j + 1) ⟨a5, t.b, t.got⟩ az5 t2 az) := by
       rcases HCS.out.2.2 with ⟨-, h⟩ | ⟨h, -⟩
       ·exact h
       ·exact absurd h h3
      clear HCS htm h3
      rcases ht3 with ht3 | ht3
      ·go_wp2_with fail
       go_roundw
       case rel => exact ⟨j + 1, ⟨a5, t.b, t.got⟩, az5, A6, d6, by go_num, rfl, HKB, HM5, by omega⟩
       case measure => simp [intOf]; omega
      ·go_wp2_with fail
       go_roundw
       case rel => exact ⟨j + 1, ⟨a5, t.b, t.got⟩, az5, A6, d6, by go_num, rfl, HKB, HM5, by omega⟩
       case measure => simp [intOf]; omega
    ·obtain ⟨rfl, rfl⟩ : t = t2 ∧ az1 = az := by
      cases HM1.out with
      |stop h => exact ⟨rfl, rfl⟩
      |put h => exact absurd ⟨by have := h.1; rw [List.length_map] at this; exact this, h.2⟩ hlt
      |pass h => exact absurd ⟨by have := h.1; rw [List.length_map] at this; exact this, h.2⟩ hlt
     clear HM1
     by_cases hk1 : (j : Int) < (M.length : Int)
     ·have hdk1 : decide ((j : Int) < (M.length : Int)) = true := decide_eq_true hk1
      have hk2 : ¬ (j : Int) < 40 := by omega
      have hdk2 : decide ((j : Int) < 40) = false := decide_eq_false hk2
      clear hlt hj
      go_wp2_with fail
      go_meet
      case rel => exact ⟨A1, d1, rfl, HK⟩
     ·have hdk1 : decide ((j : Int) < (M.length : Int)) = false := decide_eq_false hk1
      clear hlt hj
      go_wp2_with fail
      go_meet
      case rel => exact ⟨A1, d1, rfl, HK⟩
  case rest =>
  obtain ⟨A, c, rfl, HK2⟩ := hcut
  clear HK0 HPM HM HMS
  go_upto_block 2 with (fail)
  go_cut [109] (fun v wx => Hid (∃ D, PrK D w3 wx pa pb pg na nb t4 A c az))
  case first =>
   clear HGT4 HF4 HQ4
   go_wp2_with fail
   go_loopw [109] (fun i wr => ∃ (j m n : Nat) (t t' : Pr.St), i = .int .i64 j ∧ j + n = 2459 ∧ Hid (∃ D, PrK D w3 wr pa pb pg na nb t A c az) ∧ Hid (Pr.Pass m t t') ∧ Hid (Pr.Lq n t' t4)) (fun i _ => 2460 - (intOf i).toNat)
   case atStart => exact ⟨0, k3, 2459, t2, t3, rfl, rfl, HK2.out, HP3.out, HPL.out⟩
   case round =>
    clear HK2 HP3 HPL
    obtain ⟨j, m, n, t, t', rfl, hjn, HK, HPS, HLQ⟩ := hrel
    have hk1 : (j : Int) < 2460 := by omega
    have hdk1 : decide ((j : Int) < 2460) = true := decide_eq_true hk1
    obtain ⟨D, hK⟩ := HK.out
    have HKD := lh hK
    have HP := lh (pass_any hK.at_ HPS.out)
    clear hK HK HPS
    go_wp2_with fail
    refine HP.out.mono ?_
    rintro e w9 ⟨rfl, h9⟩
    have HK9 := lh (HKD.out.back h9)
    clear h9 HP HKD
    simp only
    obtain ⟨D9, hK9⟩ := HK9.out
    have HKD := lh hK9
    have hff : Pr.Fits t' := by
     cases HLQ.out with
     |stop f q => exact f
     |go f q hp h => exact f
    have HFF := lh hff
    have HQA : Hid (∀ wx, Fresh w9 wx -> Calls Tryz.prog 13 #[.pointer (some ⟨na, 0, none⟩)] wx fun e w' => e = .returned (.bool (En.quiet t'.a)) ∧ Fresh wx w') := fun wx hw => by
     obtain ⟨Ag, cg, h1, h2, h3, h4⟩ := HKD.out
     obtain ⟨cn, pc, un, sp, rp, A1, ca1, B1, cb1, hin⟩ := h1.a.old hw (fun _ _ => rfl)
     obtain ⟨⟨hi, hi2, hf⟩, -⟩ := HFF.out
     exact nquiet_any hin (fun e he => (hf.ep e he).1.llen)
    have HQB : Hid (∀ wx, Fresh w9 wx -> Calls Tryz.prog 13 #[.pointer (some ⟨nb, 0, none⟩)] wx fun e w' => e = .returned (.bool (En.quiet t'.b)) ∧ Fresh wx w') := fun wx hw => by
     obtain ⟨Ag, cg, h1, h2, h3, h4⟩ := HKD.out
     obtain ⟨cn, pc, un, sp, rp, A1, ca1, B1, cb1, hin⟩ := h1.b.old hw (fun _ _ => rfl)
     obtain ⟨-, ⟨hi, hi2, hf⟩⟩ := HFF.out
     exact nquiet_any hin (fun e he => (hf.ep e he).1.llen)
    have hpa := HPA.out _ _ _ _ _ _ hK9
    have a1 := hpa.1
    have K9 : Hid (∀ wx, Fresh w9 wx -> wx.cell? ⟨pb, 0, none⟩ = some (.pointer (some ⟨nb, 0, none⟩))) := fun wx hw => (HPA.out _ _ _ _ _ _ (HKD.out.old (D' := D9) hw (fun _ _ => rfl))).2
    have HQQ : Hid ((En.quiet t'.a && En.quiet t'.b) = true ∧ t' = t4 ∨ (En.quiet t'.a && En.quiet t'.b) = false ∧ ∃ m n' t1, n = n' + 1 ∧ Pr.Pass m ⟨(En.tick t'.a).1, (En.tick t'.b).1, t'.got⟩ t1 ∧ Pr.Lq n' t1 t4) := by
     cases HLQ.out with
     |stop f q => exact .inl ⟨q, rfl⟩
     |go f q hp h => exact .inr ⟨q, _, _, _, rfl, hp, h⟩
    clear hK9 hff hpa HK9 HLQ
    go_upto_region 29 with (fail)
    go_cut [118] (fun v wx => v = .bool (En.quiet t'.a && En.quiet t'.b) ∧ Fresh w9 wx)
    case first =>
     generalize En.quiet t'.a = qa at *
     generalize En.quiet t'.b = qb at *
     clear HQQ
     cases qa
     ·go_wp2_with fail
      refine (HQA.out _ (Touch.refl _ _)).mono ?_
      rintro e wa ⟨rfl, fa⟩
      simp only
      go_wp2_with fail
      go_meet
      case rel => exact ⟨rfl, fa⟩
     ·go_wp2_with fail
      refine (HQA.out _ (Touch.refl _ _)).mono ?_
      rintro e wa ⟨rfl, fa⟩
      have b1 := K9.out _ fa
      simp only
      go_wp2_with fail
      refine (HQB.out _ fa).mono ?_
      rintro e wb ⟨rfl, fb⟩
      have fab : Fresh w9 wb := fa.trans fb (fun _ _ e => e)
      clear fa fb b1
      simp only
      cases qb
      ·go_wp2_with fail
       go_meet
       case rel => exact ⟨rfl, fab⟩
      ·go_wp2_with fail
       go_meet
       case rel => exact ⟨rfl, fab⟩
    case rest =>
    obtain ⟨rfl, fw⟩ := hcut
    have HKW := lh (HKD.out.old (D' := D9) fw (fun _ _ => rfl))
    clear HKD HQA HQB K9 a1 fw
    rcases HQQ.out with ⟨q, e⟩ | ⟨q, m2, n2, t5, hn, p5, l5⟩
    ·subst e
     rw [q]
     clear q HQQ HFF
     go_wp2_with fail
     go_meet
     case rel => exact ⟨D9, HKW.out⟩
    ·rw [q]
     have HP5 := lh p5
     have HL5 := lh l5
     have a1 := (HPA.out _ _ _ _ _ _ HKW.out).1
     have HTA : Hid (Calls Tryz.prog 14 #[.pointer (some ⟨na, 0, none⟩)] wc (EndSigs 0 D9 wc na (En.tick t'.a))) := by
      obtain ⟨Ag, cg, h1, h2, h3, h4⟩ := HKW.out
      obtain ⟨cn, pc, un, sp, rp, A1, ca1, B1, cb1, hin⟩ := h1.a
      obtain ⟨⟨hi, hi2, hf⟩, -⟩ := HFF.out
      exact ntick_any hin hf
     clear q p5 l5 HQQ
     go_wp2_with fail
     refine HTA.out.mono ?_
     rintro e wd ⟨D10, A10, c10, rfl, h10, -, -⟩
     have HKX := lh (HKW.out.fst h10)
     have b1 := (HPA.out _ _ _ _ _ _ HKX.out).2
     have HTB : Hid (Calls Tryz.prog 14 #[.pointer (some ⟨nb, 0, none⟩)] wd (EndSigs 16 D10 wd nb (En.tick t'.b))) := by
      obtain ⟨Ag, cg, h1, h2, h3, h4⟩ := HKX.out
      obtain ⟨cn, pc, un, sp, rp, A1, ca1, B1, cb1, hin⟩ := h1.b
      obtain ⟨-, ⟨hi, hi2, hf⟩⟩ := HFF.out
      exact ntick_any hin hf
     clear h10 HTA a1 HKW HFF
     simp only
     go_wp2_with fail
     refine HTB.out.mono ?_
     rintro e we ⟨D11, A11, c11, rfl, h11, -, -⟩
     have HKY := lh (HKX.out.snd h11)
     clear h11 HTB b1 HKX
     simp only
     go_wp2
     go_roundw
     case rel => exact ⟨j + 1, m2, n2, _, t5, by go_num, by omega, ⟨_, HKY.out⟩, HP5.out, HL5.out⟩
     case measure => simp [intOf]; omega
  case rest =>
  have HK4 := hcut
  clear hcut HK2 HP3 HPL HPA
  obtain ⟨D4, hK4⟩ := HK4.out
  obtain ⟨Ag, cg, h1, h2, h3, h4⟩ := id hK4
  rw [HGT4.out] at h2
  have g1 : wc.cell? ⟨pg, 0, none⟩ = some (.slice Ag az.length cg) := h2.bg.1.cell 0
  have a1 : wc.cell? ⟨pa, 0, none⟩ = some (.pointer (some ⟨na, 0, none⟩)) := h2.ba.1.cell 0
  have HQA : Hid (Calls Tryz.prog 13 #[.pointer (some ⟨na, 0, none⟩)] wc fun e w' => e = .returned (.bool true) ∧ Fresh wc w') := by
   obtain ⟨cn, pc, un, sp, rp, A1, ca1, B1, cb1, hin⟩ := h1.a
   obtain ⟨⟨hi, hi2, hf⟩, -⟩ := HF4.out
   have := nquiet_any hin (fun e he => (hf.ep e he).1.llen)
   rw [HQ4.out] at this
   exact this
  have HEND : Hid (∀ wx, Fresh wc wx -> Fresh w wx ∧ wx.cell? ⟨pg, 0, none⟩ = some (.slice Ag az.length cg) ∧ Sl strE wx Ag cg az ∧ Sl strE wx A c az) := fun wx hw =>
   ⟨(HF3.out.trans hK4.fresh (fun _ _ e => e)).trans hw (fun _ _ e => e), (hw.blk h2.bg.1 (fun e => e)).cell 0, h2.sl.touch hw (fun _ _ e => e), h3.touch hw (fun _ _ e => e)⟩
  have hll : ((az.length : Int) != (az.length : Int)) = false := by simp
  clear h1 h2 h3 h4 hK4 HK4 HF4 HQ4 HGT4
  go_wp2_with fail
  refine HQA.out.mono ?_
  rintro e wd ⟨rfl, fd⟩
  have HFD := lh fd
  clear fd HQA g1 a1 hll
  simp only
  go_wp2_with fail
  go_loopw [140] (fun v wr => ∃ k : Nat, k <= az.length ∧ v = .int .i64 k ∧ Hid (Fresh wc wr)) (fun v _ => az.length - (intOf v).toNat)
  case atStart => exact ⟨0, by omega, rfl, HFD.out⟩
  case round =>
   clear HFD
   obtain ⟨k, hk, rfl, HFX⟩ := hrel
   obtain ⟨z1, z2, z3, z4⟩ := HEND.out wr HFX.out
   by_cases hkl : k < az.length
   ·have ht1 : (k : Int) < (az.length : Int) := by omega
    have hd1 : decide ((k : Int) < (az.length : Int)) = true := decide_eq_true ht1
    have ht0 : (0 : Int) <= (k : Int) := by omega
    have hz40 : az.length <= 40 := HAZL.out
    obtain ⟨gx1, o1, rfl, _, e1⟩ := z3.rd.str_at k hkl
    obtain ⟨gx2, o2, rfl, _, e2⟩ := z4.rd.str_at k hkl
    generalize az.getD k ByteArray.empty = v at *
    have hb : (v.toList == v.toList) = true := beq_self_eq_true _
    clear z1 z3 z4
    go_wp2
    go_quiet (fail)
    have HF2 : Hid (Fresh wc (wr.drewN nq)) := HFX.out.trans ((Touch.refl _ _).drewN nq) (fun _ _ e => e)
    go_wp2
    go_roundw
    case rel => exact ⟨k + 1, by omega, by go_num, HF2⟩
    case measure => simp [intOf]; omega
   ·obtain rfl : k = az.length := by omega
    have ht1 : ¬ (az.length : Int) < (az.length : Int) := by omega
    have hd1 : decide ((az.length : Int) < (az.length : Int)) = false := decide_eq_false ht1
    have z1 := lh z1
    clear z2 z3 z4
    go_wp2
    go_ret
    exact ⟨rfl, z1.out⟩
end Go.Proofs.YtnenaemincfgpaaGreat
