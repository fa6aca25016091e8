/-
  polliwoglaw11.Step: Next (printed by mk_step11.py).
-/
import Derived.Test.YtajdnllkkekmnaaGreatSl11
import Derived.IntWalk
namespace Go.Proofs.YtajdnllkkekmnaaGreat
open Go.RowKit

set_option maxHeartbeats 8000000 in
set_option maxRecDepth 8000 in
theorem step11_1 {lo hi : Int} (p : Nat) (F D : Nat → Prop) (P : SfP) (x : Sf.S) (a : Act11) (A : Option Addr) (c : Nat) (w : World) (h : St11 w p F D P x lo hi) (hA : Rd intE w A c a.l) (hAl : a.l.length ≤ 9223372036854775807) (ham : a.m.size ≤ maxLen) (hh : hi + 4 - lo ≤ 4000) (hk : a.kind = 1) {z : Sf.S × Int × ByteArray × Bool × Bool} (hz : Sf.next x = z) :
    Calls Tryz.prog 11 #[.pointer (some ⟨p, 0, none⟩), sfV x P, act11V a A c] w (StepPost w p F D z.1 lo (hi + 4)) := by
  have HI := Lib.hid h
  have HH := Lib.hid hh
  have hab : 0 ≤ x.a ∧ x.a ≤ 100000000 ∧ 0 ≤ x.s ∧ x.s ≤ 100000000 ∧ 0 ≤ x.pa ∧ x.pa ≤ 100000000 := by
    have h1 := h.ok.lo0; have h2 := h.ok.la; have h3 := h.ok.klen; have h4 := h.ok.shi; have h5 := h.ok.hl; have h6 := h.ok.lpa; have h7 := h.ok.pas; have h8 := h.ok.phi
    omega
  have HB : Hid (StBox w (((w.alloc (.cells #[.int .i64 x.s, .int .i64 x.a, .int .i64 x.ms, .int .i64 x.ps, .int .i64 x.pa, .int .i64 x.units, .int .i64 x.polls, .int .i64 (x.most : Int), .slice P.W x.wait.length P.cw, .slice P.K x.kept.length P.ck, .slice P.L x.last.length P.cl, .slice P.G x.again.length P.cg] 33)).alloc (.cells #[.int .i64 a.kind, .int .i64 a.r, .int .i64 a.mr, .int .i64 a.ps, .slice A a.l.length c, .bool a.raw, .string a.m] 38)).alloc (.cells #[.int .i64 0, .int .i64 0, .int .i64 0, .int .i64 0, .int .i64 0, .int .i64 0, .int .i64 0, .int .i64 0, .slice none 0 0, .slice none 0 0, .slice none 0 0, .slice none 0 0] 33)) P x a A c) := StBox.new w P x a A c
  have F1 : Hid (Fresh w (((w.alloc (.cells #[.int .i64 x.s, .int .i64 x.a, .int .i64 x.ms, .int .i64 x.ps, .int .i64 x.pa, .int .i64 x.units, .int .i64 x.polls, .int .i64 (x.most : Int), .slice P.W x.wait.length P.cw, .slice P.K x.kept.length P.ck, .slice P.L x.last.length P.cl, .slice P.G x.again.length P.cg] 33)).alloc (.cells #[.int .i64 a.kind, .int .i64 a.r, .int .i64 a.mr, .int .i64 a.ps, .slice A a.l.length c, .bool a.raw, .string a.m] 38)).alloc (.cells #[.int .i64 0, .int .i64 0, .int .i64 0, .int .i64 0, .int .i64 0, .int .i64 0, .int .i64 0, .int .i64 0, .slice none 0 0, .slice none 0 0, .slice none 0 0, .slice none 0 0] 33))) := (((Touch.refl _ _).alloc _).alloc _).alloc _
  have HNU : Hid (∀ W, Fresh w W → Calls Tryz.prog 15 #[act11V a A c, sfV x P] W fun e w' => ∃ C d, e = .returned (.tuple #[.int .i64 (Sf.numR x a), .int .i64 (Sf.numM x a), .int .i64 (Sf.numP x a), .slice C (Sf.numL x a).length d]) ∧ Mine intE W w' C d (Sf.numL x a)) := fun W hf =>
    nums11_any a A c x P W (hA.touch hf (fun _ _ _ h => h)) hAl hab
  have HNB : Hid ((0 ≤ Sf.numR x a ∧ Sf.numR x a < 16777216) ∧ (0 ≤ Sf.numM x a ∧ Sf.numM x a < 16777216) ∧ (0 ≤ Sf.numP x a ∧ Sf.numP x a < 16777216) ∧ (Sf.numL x a).map (fun n => n % 16777216) = Sf.numL x a ∧ (Sf.numL x a).length ≤ 12) := ⟨near11_bd _ _ _, near11_bd _ _ _, near11_bd _ _ _, numL_low x a, numL_len x a⟩
  have HOK := Lib.hid h.ok
  have HLIM := Lib.hid h.lim
  have HDL := Lib.hid h.dlim
  have HOFF := Lib.hid h.off
  have HAM := Lib.hid ham
  clear h hh hA ham
  unfold sfV act11V at HNU
  unfold sfV act11V
  have HKD := Lib.hid hk
  rw [hk] at HB F1 HNU ⊢
  clear hk
  generalize Sf.numR x a = nr at *
  generalize Sf.numM x a = nm at *
  generalize Sf.numP x a = np at *
  generalize Sf.numL x a = nl at *
  go_enter Tryz.func11, Tryz.ntmps11
  go_upto_region 1 with (fail)
  generalize World.alloc (World.alloc (World.alloc w _) _) _ = w1 at *
  have b0 : w1.cell? ⟨w.heap.size, 0, none⟩ = some (.int .i64 x.s) := HB.out.sf.cell 0
  have b1 : w1.cell? ⟨w.heap.size, 1, none⟩ = some (.int .i64 x.a) := HB.out.sf.cell 1
  have b2 : w1.cell? ⟨w.heap.size, 2, none⟩ = some (.int .i64 x.ms) := HB.out.sf.cell 2
  have b3 : w1.cell? ⟨w.heap.size, 3, none⟩ = some (.int .i64 x.ps) := HB.out.sf.cell 3
  have b4 : w1.cell? ⟨w.heap.size, 4, none⟩ = some (.int .i64 x.pa) := HB.out.sf.cell 4
  have b5 : w1.cell? ⟨w.heap.size, 5, none⟩ = some (.int .i64 x.units) := HB.out.sf.cell 5
  have b6 : w1.cell? ⟨w.heap.size, 6, none⟩ = some (.int .i64 x.polls) := HB.out.sf.cell 6
  have b7 : w1.cell? ⟨w.heap.size, 7, none⟩ = some (.int .i64 (x.most : Int)) := HB.out.sf.cell 7
  have b8 : w1.cell? ⟨w.heap.size, 8, none⟩ = some (.slice P.W x.wait.length P.cw) := HB.out.sf.cell 8
  have b9 : w1.cell? ⟨w.heap.size, 9, none⟩ = some (.slice P.K x.kept.length P.ck) := HB.out.sf.cell 9
  have ba : w1.cell? ⟨w.heap.size, 10, none⟩ = some (.slice P.L x.last.length P.cl) := HB.out.sf.cell 10
  have bb : w1.cell? ⟨w.heap.size, 11, none⟩ = some (.slice P.G x.again.length P.cg) := HB.out.sf.cell 11
  have a0 : w1.cell? ⟨w.heap.size + 1, 0, none⟩ = some (.int .i64 1) := by have := HB.out.act.cell 0; unfold act11C at this; rw [HKD.out] at this; simpa using this
  have a1 : w1.cell? ⟨w.heap.size + 1, 1, none⟩ = some (.int .i64 a.r) := by have := HB.out.act.cell 1; unfold act11C at this; simpa using this
  have a2 : w1.cell? ⟨w.heap.size + 1, 2, none⟩ = some (.int .i64 a.mr) := by have := HB.out.act.cell 2; unfold act11C at this; simpa using this
  have a3 : w1.cell? ⟨w.heap.size + 1, 3, none⟩ = some (.int .i64 a.ps) := by have := HB.out.act.cell 3; unfold act11C at this; simpa using this
  have a4 : w1.cell? ⟨w.heap.size + 1, 4, none⟩ = some (.slice A a.l.length c) := by have := HB.out.act.cell 4; unfold act11C at this; simpa using this
  have a5 : w1.cell? ⟨w.heap.size + 1, 5, none⟩ = some (.bool a.raw) := by have := HB.out.act.cell 5; unfold act11C at this; simpa using this
  have a6 : w1.cell? ⟨w.heap.size + 1, 6, none⟩ = some (.string a.m) := by have := HB.out.act.cell 6; unfold act11C at this; simpa using this
  go_wp2_with fail
  refine (HNU.out w1 F1.out).mono ?_
  rintro e w2 ⟨C, d, rfl, m⟩
  have HB2 := Lib.hid (HB.out.old m.fresh)
  have F2 : Hid (Fresh w w2) := F1.out.trans m.fresh (fun _ _ h => h)
  have HC2 : Hid (Sl intE w2 C d nl) := m.sl
  have hwz : Hid (w.heap.size + 1 + 1 < w2.heap.size) := HB2.out.res.lt
  clear b0 b1 b2 b3 b4 b5 b6 b7 b8 b9 ba bb a0 a1 a2 a3 a4 a5 a6 m HNU HB F1
  simp only
  have b0 : w2.cell? ⟨w.heap.size, 0, none⟩ = some (.int .i64 x.s) := HB2.out.sf.cell 0
  have b1 : w2.cell? ⟨w.heap.size, 1, none⟩ = some (.int .i64 x.a) := HB2.out.sf.cell 1
  have b2 : w2.cell? ⟨w.heap.size, 2, none⟩ = some (.int .i64 x.ms) := HB2.out.sf.cell 2
  have b3 : w2.cell? ⟨w.heap.size, 3, none⟩ = some (.int .i64 x.ps) := HB2.out.sf.cell 3
  have b4 : w2.cell? ⟨w.heap.size, 4, none⟩ = some (.int .i64 x.pa) := HB2.out.sf.cell 4
  have b5 : w2.cell? ⟨w.heap.size, 5, none⟩ = some (.int .i64 x.units) := HB2.out.sf.cell 5
  have b6 : w2.cell? ⟨w.heap.size, 6, none⟩ = some (.int .i64 x.polls) := HB2.out.sf.cell 6
  have b7 : w2.cell? ⟨w.heap.size, 7, none⟩ = some (.int .i64 (x.most : Int)) := HB2.out.sf.cell 7
  have b8 : w2.cell? ⟨w.heap.size, 8, none⟩ = some (.slice P.W x.wait.length P.cw) := HB2.out.sf.cell 8
  have b9 : w2.cell? ⟨w.heap.size, 9, none⟩ = some (.slice P.K x.kept.length P.ck) := HB2.out.sf.cell 9
  have ba : w2.cell? ⟨w.heap.size, 10, none⟩ = some (.slice P.L x.last.length P.cl) := HB2.out.sf.cell 10
  have bb : w2.cell? ⟨w.heap.size, 11, none⟩ = some (.slice P.G x.again.length P.cg) := HB2.out.sf.cell 11
  have a0 : w2.cell? ⟨w.heap.size + 1, 0, none⟩ = some (.int .i64 1) := by have := HB2.out.act.cell 0; unfold act11C at this; rw [HKD.out] at this; simpa using this
  have a6 : w2.cell? ⟨w.heap.size + 1, 6, none⟩ = some (.string a.m) := by have := HB2.out.act.cell 6; unfold act11C at this; simpa using this
  have HNX := Lib.hid (sfnext_any P D x lo hi w2 (HI.out.ins.old F2.out) HI.out.dom (fun k hk => Nat.lt_of_lt_of_le (HDL.out k hk) F2.out.size) HOK.out)
  have HOY : Hid (Sf.Ok z.1 lo (hi + 4)) := by rw [← hz]; exact (HOK.out.next (by have := HH.out; omega)).mono (by omega) HH.out
  have HNP := Lib.hid (fun (W : World) (hW : SendAt W p F (Sf.prog x)) => snextP_any p F x lo hi HOK.out W hW)
  rw [hz] at HNX HNP
  clear hz
  obtain ⟨y, n, v, f, k⟩ := z
  simp only at HNX HNP HOY ⊢
  unfold sfV at HNX
  go_wp2_with fail
  refine HNX.out.mono ?_
  rintro e w3 ⟨V, rfl, ho⟩
  obtain ⟨Q, rfl, i3, d3, f3⟩ := ho.open_
  have HB3 := Lib.hid (HB2.out.old f3)
  have F3 : Hid (Fresh w w3) := F2.out.trans f3 (fun _ _ h => h)
  have I3 := Lib.hid i3
  have D3 := Lib.hid d3
  have hz3 : Hid (w2.heap.size ≤ w3.heap.size) := f3.size
  clear ho i3 d3 f3 HNX HB2 F2 b0 b1 b2 b3 b4 b5 b6 b7 b8 b9 ba bb a0 a6
  unfold sfV
  simp only
  go_upto_region 5 with (fail)
  have HB12 : Hid (Blk (w3.alloc (.cells #[.int .i64 y.s, .int .i64 y.a, .int .i64 y.ms, .int .i64 y.ps, .int .i64 y.pa, .int .i64 y.units, .int .i64 y.polls, .int .i64 (y.most : Int), .slice Q.W y.wait.length Q.cw, .slice Q.K y.kept.length Q.ck, .slice Q.L y.last.length Q.cl, .slice Q.G y.again.length Q.cg] 33)) w3.heap.size 33 (sfCells y Q)) := Blk.new w3 _ (sfCells y Q)
  have f4 : Fresh w3 (w3.alloc (.cells #[.int .i64 y.s, .int .i64 y.a, .int .i64 y.ms, .int .i64 y.ps, .int .i64 y.pa, .int .i64 y.units, .int .i64 y.polls, .int .i64 (y.most : Int), .slice Q.W y.wait.length Q.cw, .slice Q.K y.kept.length Q.ck, .slice Q.L y.last.length Q.cl, .slice Q.G y.again.length Q.cg] 33)) := (Touch.refl _ _).alloc _
  have HB4 := Lib.hid (HB3.out.old f4)
  have F4 : Hid (Fresh w (w3.alloc (.cells #[.int .i64 y.s, .int .i64 y.a, .int .i64 y.ms, .int .i64 y.ps, .int .i64 y.pa, .int .i64 y.units, .int .i64 y.polls, .int .i64 (y.most : Int), .slice Q.W y.wait.length Q.cw, .slice Q.K y.kept.length Q.ck, .slice Q.L y.last.length Q.cl, .slice Q.G y.again.length Q.cg] 33))) := F3.out.trans f4 (fun _ _ h => h)
  have I4 := Lib.hid (I3.out.old f4)
  have hz4 : Hid (w3.heap.size < (w3.alloc (.cells #[.int .i64 y.s, .int .i64 y.a, .int .i64 y.ms, .int .i64 y.ps, .int .i64 y.pa, .int .i64 y.units, .int .i64 y.polls, .int .i64 (y.most : Int), .slice Q.W y.wait.length Q.cw, .slice Q.K y.kept.length Q.ck, .slice Q.L y.last.length Q.cl, .slice Q.G y.again.length Q.cg] 33)).heap.size) := HB12.out.lt
  clear f4 HB3 F3 I3
  generalize World.alloc w3 _ = w4 at *
  go_wp2_with fail
  refine (HNP.out w4 (HI.out.send.old F4.out)).mono ?_
  rintro e w5 ⟨rfl, s5, t5⟩
  have S5 := Lib.hid s5.within
  have HF4 : Hid (∀ k, F k → k < w.heap.size) := HLIM
  have HB5 := Lib.hid (HB4.out.touch t5 (fun k hk => .inl (HLIM.out k hk)))
  have HB12' := Lib.hid (t5.blk HB12.out (fun hk => by have h1 := HLIM.out _ hk; have h2 := hwz.out; have h3 := hz3.out; omega))
  have I5 := Lib.hid (I4.out.touch D3.out t5 (fun k hk hf => by
    have h1 := HLIM.out k hf
    rcases hk with hk | hk
    · exact HOFF.out k hf hk
    · have h2 := hwz.out; omega))
  have T5 : Hid (Touch F w w5) := (F4.out.mono (fun _ _ h => h.elim)).trans t5 (fun _ _ h => h)
  have hz5 : Hid (w4.heap.size ≤ w5.heap.size) := t5.size
  clear s5 t5 HNP HB4 HB12 I4 F4
  have HX : Hid (∀ W, Touch (· = w.heap.size + 1 + 1) w5 W → StepPost w p F D y lo (hi + 4) (.returned (.tuple #[.agg #[.int .i64 y.s, .int .i64 y.a, .int .i64 y.ms, .int .i64 y.ps, .int .i64 y.pa, .int .i64 y.units, .int .i64 y.polls, .int .i64 (y.most : Int), .slice Q.W y.wait.length Q.cw, .slice Q.K y.kept.length Q.ck, .slice Q.L y.last.length Q.cl, .slice Q.G y.again.length Q.cg], .bool true])) W) := fun W ht => by
    have h1 := hwz.out; have h2 := hz3.out; have h3 := hz4.out; have h4 := hz5.out; have h5 := ht.size
    exact HI.out.done (S5.out.away ht (fun k hk hf => by
        have hk : k = w.heap.size + 1 + 1 := hk
        rcases hf with hf | hf
        · have := HLIM.out k hf; omega
        · omega)) (I5.out.touch D3.out ht (fun k hk hk2 => by
        have hk2 : k = w.heap.size + 1 + 1 := hk2
        rcases hk with hk | hk
        · have := HDL.out k hk; omega
        · omega)) D3.out (T5.out.trans ht (fun k hk e => by have e : k = w.heap.size + 1 + 1 := e; omega)) HOY.out (.inr (by omega)) (by omega) (by omega) (by omega) (by omega)
  have HOF := Lib.hid (r01of_any n)
  have hnb : 0 ≤ n % 16777216 ∧ n % 16777216 < 16777216 := by omega
  generalize n % 16777216 = n' at *
  have hw : IntKind.i64.wrap n' = n' := IntWalk.i64_in _ (by omega)
  have hnn : (n' == n') = true := by simp
  have hff : (f == f) = true := by simp
  have hkk : (k == k) = true := by simp
  have hvv : (v.toList == v.toList) = true := str_eq rfl
  obtain ⟨b12, hb12⟩ : ∃ b, w3.heap.size = b := ⟨_, rfl⟩
  rw [hb12] at HB12' ⊢
  have hbne : Hid (b12 ≠ w.heap.size + 1 + 1) := by have h1 := hwz.out; have h2 := hz3.out; unfold Hid; omega
  clear hb12
  have q0 : w5.cell? ⟨b12, 0, none⟩ = some (.int .i64 y.s) := HB12'.out.cell 0
  have q1 : w5.cell? ⟨b12, 1, none⟩ = some (.int .i64 y.a) := HB12'.out.cell 1
  have q2 : w5.cell? ⟨b12, 2, none⟩ = some (.int .i64 y.ms) := HB12'.out.cell 2
  have q3 : w5.cell? ⟨b12, 3, none⟩ = some (.int .i64 y.ps) := HB12'.out.cell 3
  have q4 : w5.cell? ⟨b12, 4, none⟩ = some (.int .i64 y.pa) := HB12'.out.cell 4
  have q5 : w5.cell? ⟨b12, 5, none⟩ = some (.int .i64 y.units) := HB12'.out.cell 5
  have q6 : w5.cell? ⟨b12, 6, none⟩ = some (.int .i64 y.polls) := HB12'.out.cell 6
  have q7 : w5.cell? ⟨b12, 7, none⟩ = some (.int .i64 (y.most : Int)) := HB12'.out.cell 7
  have q8 : w5.cell? ⟨b12, 8, none⟩ = some (.slice Q.W y.wait.length Q.cw) := HB12'.out.cell 8
  have q9 : w5.cell? ⟨b12, 9, none⟩ = some (.slice Q.K y.kept.length Q.ck) := HB12'.out.cell 9
  have qa : w5.cell? ⟨b12, 10, none⟩ = some (.slice Q.L y.last.length Q.cl) := HB12'.out.cell 10
  have qb : w5.cell? ⟨b12, 11, none⟩ = some (.slice Q.G y.again.length Q.cg) := HB12'.out.cell 11
  have r0 : w5.cell? ⟨w.heap.size + 1 + 1, 0, none⟩ = some (.int .i64 0) := HB5.out.res.cell 0
  have r1 : w5.cell? ⟨w.heap.size + 1 + 1, 1, none⟩ = some (.int .i64 0) := HB5.out.res.cell 1
  have r2 : w5.cell? ⟨w.heap.size + 1 + 1, 2, none⟩ = some (.int .i64 0) := HB5.out.res.cell 2
  have r3 : w5.cell? ⟨w.heap.size + 1 + 1, 3, none⟩ = some (.int .i64 0) := HB5.out.res.cell 3
  have r4 : w5.cell? ⟨w.heap.size + 1 + 1, 4, none⟩ = some (.int .i64 0) := HB5.out.res.cell 4
  have r5 : w5.cell? ⟨w.heap.size + 1 + 1, 5, none⟩ = some (.int .i64 0) := HB5.out.res.cell 5
  have r6 : w5.cell? ⟨w.heap.size + 1 + 1, 6, none⟩ = some (.int .i64 0) := HB5.out.res.cell 6
  have r7 : w5.cell? ⟨w.heap.size + 1 + 1, 7, none⟩ = some (.int .i64 0) := HB5.out.res.cell 7
  have r8 : w5.cell? ⟨w.heap.size + 1 + 1, 8, none⟩ = some (.slice none 0 0) := HB5.out.res.cell 8
  have r9 : w5.cell? ⟨w.heap.size + 1 + 1, 9, none⟩ = some (.slice none 0 0) := HB5.out.res.cell 9
  have ra : w5.cell? ⟨w.heap.size + 1 + 1, 10, none⟩ = some (.slice none 0 0) := HB5.out.res.cell 10
  have rb : w5.cell? ⟨w.heap.size + 1 + 1, 11, none⟩ = some (.slice none 0 0) := HB5.out.res.cell 11
  have fz := fun i => HB5.out.res.frozen i
  have KE : Hid (∀ W, Touch (· = w.heap.size + 1 + 1) w5 W → W.cell? ⟨b12, 0, none⟩ = some (.int .i64 y.s) ∧ W.cell? ⟨b12, 1, none⟩ = some (.int .i64 y.a) ∧ W.cell? ⟨b12, 2, none⟩ = some (.int .i64 y.ms) ∧ W.cell? ⟨b12, 3, none⟩ = some (.int .i64 y.ps) ∧ W.cell? ⟨b12, 4, none⟩ = some (.int .i64 y.pa) ∧ W.cell? ⟨b12, 5, none⟩ = some (.int .i64 y.units) ∧ W.cell? ⟨b12, 6, none⟩ = some (.int .i64 y.polls) ∧ W.cell? ⟨b12, 7, none⟩ = some (.int .i64 (y.most : Int)) ∧ W.cell? ⟨b12, 8, none⟩ = some (.slice Q.W y.wait.length Q.cw) ∧ W.cell? ⟨b12, 9, none⟩ = some (.slice Q.K y.kept.length Q.ck) ∧ W.cell? ⟨b12, 10, none⟩ = some (.slice Q.L y.last.length Q.cl) ∧ W.cell? ⟨b12, 11, none⟩ = some (.slice Q.G y.again.length Q.cg)) := fun W ht => by
    have hb := ht.blk HB12'.out (fun e => hbne.out e)
    exact ⟨hb.cell 0, hb.cell 1, hb.cell 2, hb.cell 3, hb.cell 4, hb.cell 5, hb.cell 6, hb.cell 7, hb.cell 8, hb.cell 9, hb.cell 10, hb.cell 11⟩
  clear HB12' HB5 I5 S5 T5 D3 HI HOK HOY HLIM HDL HOFF HAM HC2 HNB HF4
  simp only
  go_wp2_with fail
  have T1 : Touch (· = w.heap.size + 1 + 1) w5 w5.drew := (Touch.refl _ _).drew
  have T2 : ∀ u0 u1 u2 u3 u4 u5 u6 u7 u8 u9 ua ub : Value, Touch (· = w.heap.size + 1 + 1) w5 (((((((((((((w5.setCell ⟨w.heap.size + 1 + 1, 0, none⟩ u0).setCell ⟨w.heap.size + 1 + 1, 1, none⟩ u1).setCell ⟨w.heap.size + 1 + 1, 2, none⟩ u2).setCell ⟨w.heap.size + 1 + 1, 3, none⟩ u3).setCell ⟨w.heap.size + 1 + 1, 4, none⟩ u4).setCell ⟨w.heap.size + 1 + 1, 5, none⟩ u5).setCell ⟨w.heap.size + 1 + 1, 6, none⟩ u6).setCell ⟨w.heap.size + 1 + 1, 7, none⟩ u7).setCell ⟨w.heap.size + 1 + 1, 8, none⟩ u8).setCell ⟨w.heap.size + 1 + 1, 9, none⟩ u9).setCell ⟨w.heap.size + 1 + 1, 10, none⟩ ua).setCell ⟨w.heap.size + 1 + 1, 11, none⟩ ub).drew) := fun _ _ _ _ _ _ _ _ _ _ _ _ => (Touch.st12 (S := (· = w.heap.size + 1 + 1)) (Touch.refl _ _) rfl).drew
  go_region_held3 (fun wx => wx.cell? ⟨b12, 0, none⟩ = some (.int .i64 y.s) ∧ wx.cell? ⟨b12, 1, none⟩ = some (.int .i64 y.a) ∧ wx.cell? ⟨b12, 2, none⟩ = some (.int .i64 y.ms) ∧ wx.cell? ⟨b12, 3, none⟩ = some (.int .i64 y.ps) ∧ wx.cell? ⟨b12, 4, none⟩ = some (.int .i64 y.pa) ∧ wx.cell? ⟨b12, 5, none⟩ = some (.int .i64 y.units) ∧ wx.cell? ⟨b12, 6, none⟩ = some (.int .i64 y.polls) ∧ wx.cell? ⟨b12, 7, none⟩ = some (.int .i64 (y.most : Int)) ∧ wx.cell? ⟨b12, 8, none⟩ = some (.slice Q.W y.wait.length Q.cw) ∧ wx.cell? ⟨b12, 9, none⟩ = some (.slice Q.K y.kept.length Q.ck) ∧ wx.cell? ⟨b12, 10, none⟩ = some (.slice Q.L y.last.length Q.cl) ∧ wx.cell? ⟨b12, 11, none⟩ = some (.slice Q.G y.again.length Q.cg))
    (first
      | with_reducible exact KE.out _ (by with_reducible assumption)
      | with_reducible exact KE.out _ (T2 _ _ _ _ _ _ _ _ _ _ _ _))
    (first
      | (go_simp; go_at_call 32; (with_reducible refine (HOF.out _).mono ?_); rintro e' w6 ⟨rfl, h6⟩; subst h6))
  all_goals
    go_wp2
    exact bodyPost_ret (v := .tuple #[.agg #[.int .i64 y.s, .int .i64 y.a, .int .i64 y.ms, .int .i64 y.ps, .int .i64 y.pa, .int .i64 y.units, .int .i64 y.polls, .int .i64 (y.most : Int), .slice Q.W y.wait.length Q.cw, .slice Q.K y.kept.length Q.ck, .slice Q.L y.last.length Q.cl, .slice Q.G y.again.length Q.cg], .bool true]) (by simp [results, Tryz.results11, go_sem, r0, r1, r2, r3, r4, r5, r6, r7, r8, r9, ra, rb]) rfl (HX.out _ (T2 _ _ _ _ _ _ _ _ _ _ _ _))
end Go.Proofs.YtajdnllkkekmnaaGreat

namespace Go.Proofs.YtajdnllkkekmnaaGreat
open Go.RowKit

set_option maxHeartbeats 8000000 in
set_option maxRecDepth 8000 in
theorem step11_2 {lo hi : Int} (p : Nat) (F D : Nat → Prop) (P : SfP) (x : Sf.S) (a : Act11) (A : Option Addr) (c : Nat) (w : World) (h : St11 w p F D P x lo hi) (hA : Rd intE w A c a.l) (hAl : a.l.length ≤ 9223372036854775807) (ham : a.m.size ≤ maxLen) (hh : hi + 4 - lo ≤ 4000) (hk : a.kind = 2) {y : Sf.S} (hy : Sf.poll x = y) :
    Calls Tryz.prog 11 #[.pointer (some ⟨p, 0, none⟩), sfV x P, act11V a A c] w (StepPost w p F D y lo (hi + 4)) := by
  have HI := Lib.hid h
  have HH := Lib.hid hh
  have hab : 0 ≤ x.a ∧ x.a ≤ 100000000 ∧ 0 ≤ x.s ∧ x.s ≤ 100000000 ∧ 0 ≤ x.pa ∧ x.pa ≤ 100000000 := by
    have h1 := h.ok.lo0; have h2 := h.ok.la; have h3 := h.ok.klen; have h4 := h.ok.shi; have h5 := h.ok.hl; have h6 := h.ok.lpa; have h7 := h.ok.pas; have h8 := h.ok.phi
    omega
  have HB : Hid (StBox w (((w.alloc (.cells #[.int .i64 x.s, .int .i64 x.a, .int .i64 x.ms, .int .i64 x.ps, .int .i64 x.pa, .int .i64 x.units, .int .i64 x.polls, .int .i64 (x.most : Int), .slice P.W x.wait.length P.cw, .slice P.K x.kept.length P.ck, .slice P.L x.last.length P.cl, .slice P.G x.again.length P.cg] 33)).alloc (.cells #[.int .i64 a.kind, .int .i64 a.r, .int .i64 a.mr, .int .i64 a.ps, .slice A a.l.length c, .bool a.raw, .string a.m] 38)).alloc (.cells #[.int .i64 0, .int .i64 0, .int .i64 0, .int .i64 0, .int .i64 0, .int .i64 0, .int .i64 0, .int .i64 0, .slice none 0 0, .slice none 0 0, .slice none 0 0, .slice none 0 0] 33)) P x a A c) := StBox.new w P x a A c
  have F1 : Hid (Fresh w (((w.alloc (.cells #[.int .i64 x.s, .int .i64 x.a, .int .i64 x.ms, .int .i64 x.ps, .int .i64 x.pa, .int .i64 x.units, .int .i64 x.polls, .int .i64 (x.most : Int), .slice P.W x.wait.length P.cw, .slice P.K x.kept.length P.ck, .slice P.L x.last.length P.cl, .slice P.G x.again.length P.cg] 33)).alloc (.cells #[.int .i64 a.kind, .int .i64 a.r, .int .i64 a.mr, .int .i64 a.ps, .slice A a.l.length c, .bool a.raw, .string a.m] 38)).alloc (.cells #[.int .i64 0, .int .i64 0, .int .i64 0, .int .i64 0, .int .i64 0, .int .i64 0, .int .i64 0, .int .i64 0, .slice none 0 0, .slice none 0 0, .slice none 0 0, .slice none 0 0] 33))) := (((Touch.refl _ _).alloc _).alloc _).alloc _
  have HNU : Hid (∀ W, Fresh w W → Calls Tryz.prog 15 #[act11V a A c, sfV x P] W fun e w' => ∃ C d, e = .returned (.tuple #[.int .i64 (Sf.numR x a), .int .i64 (Sf.numM x a), .int .i64 (Sf.numP x a), .slice C (Sf.numL x a).length d]) ∧ Mine intE W w' C d (Sf.numL x a)) := fun W hf =>
    nums11_any a A c x P W (hA.touch hf (fun _ _ _ h => h)) hAl hab
  have HNB : Hid ((0 ≤ Sf.numR x a ∧ Sf.numR x a < 16777216) ∧ (0 ≤ Sf.numM x a ∧ Sf.numM x a < 16777216) ∧ (0 ≤ Sf.numP x a ∧ Sf.numP x a < 16777216) ∧ (Sf.numL x a).map (fun n => n % 16777216) = Sf.numL x a ∧ (Sf.numL x a).length ≤ 12) := ⟨near11_bd _ _ _, near11_bd _ _ _, near11_bd _ _ _, numL_low x a, numL_len x a⟩
  have HOK := Lib.hid h.ok
  have HLIM := Lib.hid h.lim
  have HDL := Lib.hid h.dlim
  have HOFF := Lib.hid h.off
  have HAM := Lib.hid ham
  clear h hh hA ham
  unfold sfV act11V at HNU
  unfold sfV act11V
  have HKD := Lib.hid hk
  rw [hk] at HB F1 HNU ⊢
  clear hk
  generalize Sf.numR x a = nr at *
  generalize Sf.numM x a = nm at *
  generalize Sf.numP x a = np at *
  generalize Sf.numL x a = nl at *
  go_enter Tryz.func11, Tryz.ntmps11
  go_upto_region 1 with (fail)
  generalize World.alloc (World.alloc (World.alloc w _) _) _ = w1 at *
  have b0 : w1.cell? ⟨w.heap.size, 0, none⟩ = some (.int .i64 x.s) := HB.out.sf.cell 0
  have b1 : w1.cell? ⟨w.heap.size, 1, none⟩ = some (.int .i64 x.a) := HB.out.sf.cell 1
  have b2 : w1.cell? ⟨w.heap.size, 2, none⟩ = some (.int .i64 x.ms) := HB.out.sf.cell 2
  have b3 : w1.cell? ⟨w.heap.size, 3, none⟩ = some (.int .i64 x.ps) := HB.out.sf.cell 3
  have b4 : w1.cell? ⟨w.heap.size, 4, none⟩ = some (.int .i64 x.pa) := HB.out.sf.cell 4
  have b5 : w1.cell? ⟨w.heap.size, 5, none⟩ = some (.int .i64 x.units) := HB.out.sf.cell 5
  have b6 : w1.cell? ⟨w.heap.size, 6, none⟩ = some (.int .i64 x.polls) := HB.out.sf.cell 6
  have b7 : w1.cell? ⟨w.heap.size, 7, none⟩ = some (.int .i64 (x.most : Int)) := HB.out.sf.cell 7
  have b8 : w1.cell? ⟨w.heap.size, 8, none⟩ = some (.slice P.W x.wait.length P.cw) := HB.out.sf.cell 8
  have b9 : w1.cell? ⟨w.heap.size, 9, none⟩ = some (.slice P.K x.kept.length P.ck) := HB.out.sf.cell 9
  have ba : w1.cell? ⟨w.heap.size, 10, none⟩ = some (.slice P.L x.last.length P.cl) := HB.out.sf.cell 10
  have bb : w1.cell? ⟨w.heap.size, 11, none⟩ = some (.slice P.G x.again.length P.cg) := HB.out.sf.cell 11
  have a0 : w1.cell? ⟨w.heap.size + 1, 0, none⟩ = some (.int .i64 2) := by have := HB.out.act.cell 0; unfold act11C at this; rw [HKD.out] at this; simpa using this
  have a1 : w1.cell? ⟨w.heap.size + 1, 1, none⟩ = some (.int .i64 a.r) := by have := HB.out.act.cell 1; unfold act11C at this; simpa using this
  have a2 : w1.cell? ⟨w.heap.size + 1, 2, none⟩ = some (.int .i64 a.mr) := by have := HB.out.act.cell 2; unfold act11C at this; simpa using this
  have a3 : w1.cell? ⟨w.heap.size + 1, 3, none⟩ = some (.int .i64 a.ps) := by have := HB.out.act.cell 3; unfold act11C at this; simpa using this
  have a4 : w1.cell? ⟨w.heap.size + 1, 4, none⟩ = some (.slice A a.l.length c) := by have := HB.out.act.cell 4; unfold act11C at this; simpa using this
  have a5 : w1.cell? ⟨w.heap.size + 1, 5, none⟩ = some (.bool a.raw) := by have := HB.out.act.cell 5; unfold act11C at this; simpa using this
  have a6 : w1.cell? ⟨w.heap.size + 1, 6, none⟩ = some (.string a.m) := by have := HB.out.act.cell 6; unfold act11C at this; simpa using this
  go_wp2_with fail
  refine (HNU.out w1 F1.out).mono ?_
  rintro e w2 ⟨C, d, rfl, m⟩
  have HB2 := Lib.hid (HB.out.old m.fresh)
  have F2 : Hid (Fresh w w2) := F1.out.trans m.fresh (fun _ _ h => h)
  have HC2 : Hid (Sl intE w2 C d nl) := m.sl
  have hwz : Hid (w.heap.size + 1 + 1 < w2.heap.size) := HB2.out.res.lt
  clear b0 b1 b2 b3 b4 b5 b6 b7 b8 b9 ba bb a0 a1 a2 a3 a4 a5 a6 m HNU HB F1
  simp only
  have b0 : w2.cell? ⟨w.heap.size, 0, none⟩ = some (.int .i64 x.s) := HB2.out.sf.cell 0
  have b1 : w2.cell? ⟨w.heap.size, 1, none⟩ = some (.int .i64 x.a) := HB2.out.sf.cell 1
  have b2 : w2.cell? ⟨w.heap.size, 2, none⟩ = some (.int .i64 x.ms) := HB2.out.sf.cell 2
  have b3 : w2.cell? ⟨w.heap.size, 3, none⟩ = some (.int .i64 x.ps) := HB2.out.sf.cell 3
  have b4 : w2.cell? ⟨w.heap.size, 4, none⟩ = some (.int .i64 x.pa) := HB2.out.sf.cell 4
  have b5 : w2.cell? ⟨w.heap.size, 5, none⟩ = some (.int .i64 x.units) := HB2.out.sf.cell 5
  have b6 : w2.cell? ⟨w.heap.size, 6, none⟩ = some (.int .i64 x.polls) := HB2.out.sf.cell 6
  have b7 : w2.cell? ⟨w.heap.size, 7, none⟩ = some (.int .i64 (x.most : Int)) := HB2.out.sf.cell 7
  have b8 : w2.cell? ⟨w.heap.size, 8, none⟩ = some (.slice P.W x.wait.length P.cw) := HB2.out.sf.cell 8
  have b9 : w2.cell? ⟨w.heap.size, 9, none⟩ = some (.slice P.K x.kept.length P.ck) := HB2.out.sf.cell 9
  have ba : w2.cell? ⟨w.heap.size, 10, none⟩ = some (.slice P.L x.last.length P.cl) := HB2.out.sf.cell 10
  have bb : w2.cell? ⟨w.heap.size, 11, none⟩ = some (.slice P.G x.again.length P.cg) := HB2.out.sf.cell 11
  have a0 : w2.cell? ⟨w.heap.size + 1, 0, none⟩ = some (.int .i64 2) := by have := HB2.out.act.cell 0; unfold act11C at this; rw [HKD.out] at this; simpa using this
  have a6 : w2.cell? ⟨w.heap.size + 1, 6, none⟩ = some (.string a.m) := by have := HB2.out.act.cell 6; unfold act11C at this; simpa using this
  have fb := fun i => HB2.out.sf.frozen i
  have HPS : Hid (0 ≤ x.ps ∧ x.ps ≤ 100000000) := by have h1 := HOK.out.lo0; have h2 := HOK.out.lpa; have h3 := HOK.out.pas; have h4 := HOK.out.phi; have h5 := HOK.out.hl; unfold Hid; omega
  have hps0 := HPS.out.1
  have hps1 := HPS.out.2
  have HY := Lib.hid hy
  have HOY : Hid (Sf.Ok y lo (hi + 4)) := by rw [← hy]; exact (HOK.out.poll (by have := HH.out; omega)).mono (by omega) HH.out
  have T23 : Touch (· = w.heap.size) w2 ((w2.setCell ⟨w.heap.size, 3, none⟩ (.int .i64 (x.ps + 1))).setCell ⟨w.heap.size, 5, none⟩ (.int .i64 0)) := ((Touch.refl (· = w.heap.size) w2).st rfl).st rfl
  have B3 : Hid (Blk ((w2.setCell ⟨w.heap.size, 3, none⟩ (.int .i64 (x.ps + 1))).setCell ⟨w.heap.size, 5, none⟩ (.int .i64 0)) w.heap.size 33 [.int .i64 x.s, .int .i64 x.a, .int .i64 x.ms, .int .i64 (x.ps + 1), .int .i64 x.pa, .int .i64 0, .int .i64 x.polls, .int .i64 (x.most : Int), .slice P.W x.wait.length P.cw, .slice P.K x.kept.length P.ck, .slice P.L x.last.length P.cl, .slice P.G x.again.length P.cg]) := (HB2.out.sf.set 3 _).set 5 _
  have R3 : Hid (Blk ((w2.setCell ⟨w.heap.size, 3, none⟩ (.int .i64 (x.ps + 1))).setCell ⟨w.heap.size, 5, none⟩ (.int .i64 0)) (w.heap.size + 1 + 1) 33 sfZero) := T23.blk HB2.out.res (fun e => by omega)
  have T3 : Hid (Touch F w ((w2.setCell ⟨w.heap.size, 3, none⟩ (.int .i64 (x.ps + 1))).setCell ⟨w.heap.size, 5, none⟩ (.int .i64 0))) := (F2.out.mono (fun _ _ h => h.elim)).trans T23 (fun k hk e => by omega)
  have S3 : Hid (SendAt ((w2.setCell ⟨w.heap.size, 3, none⟩ (.int .i64 (x.ps + 1))).setCell ⟨w.heap.size, 5, none⟩ (.int .i64 0)) p F (Sf.prog x)) := (HI.out.send.old F2.out).away T23 (fun k hk hf => by have := HLIM.out k hf; omega)
  have I3 : Hid (SfIn ((w2.setCell ⟨w.heap.size, 3, none⟩ (.int .i64 (x.ps + 1))).setCell ⟨w.heap.size, 5, none⟩ (.int .i64 0)) P x) := (HI.out.ins.old F2.out).touch HI.out.dom T23 (fun k hk e => by have := HDL.out k hk; omega)
  clear T23 hy
  go_upto_region 9 with (fail)
  clear b0 b1 b2 b3 b4 b5 b6 b7 b8 b9 ba bb a0 a6 fb
  generalize World.setCell _ ⟨w.heap.size, 5, none⟩ (.int .i64 0) = w3 at *
  have HNP := Lib.hid (spoll_any p F (Sf.prog x) w3 S3.out)
  have e1 : (((Sf.prog x).ps + 1) % 16777216) = (x.ps + 1) % 16777216 := by show (x.ps % 16777216 + 1) % 16777216 = _; omega
  have e2 : (Sf.prog x).s = x.s % 16777216 := rfl
  rw [Sf.prog_poll, e1, e2, HY.out] at HNP
  clear e1 e2
  go_wp2_with fail
  refine HNP.out.mono ?_
  rintro e w4 ⟨rfl, s4, t4⟩
  have S4 : Hid (SendAt w4 p (Within F w.heap.size w.heap.size) (Sf.prog y)) := s4.mono (fun _ h => .inl h)
  have B4 := Lib.hid (t4.blk B3.out (fun hk => by have h1 := HLIM.out _ hk; omega))
  have R4 := Lib.hid (t4.blk R3.out (fun hk => by have h1 := HLIM.out _ hk; omega))
  have I4 : Hid (SfIn w4 P y) := by
    have h1 := I3.out.touch HI.out.dom t4 (fun k hk hf => HOFF.out k hf hk)
    unfold Hid
    rw [← HY.out]
    exact ⟨h1.wait, h1.kept, h1.last, h1.again⟩
  have D4 : Hid (SfD P (Within D w.heap.size w.heap.size)) := HI.out.dom.mono (fun _ h => .inl h)
  have T4 : Hid (Touch F w w4) := T3.out.trans t4 (fun _ _ h => h)
  have hw4 : Hid (w.heap.size ≤ w4.heap.size) := T4.out.size
  clear s4 t4 HNP S3 B3 R3 I3 T3
  have HX : Hid (∀ W, Touch (· = w.heap.size + 1 + 1) w4 W → StepPost w p F D y lo (hi + 4) (.returned (.tuple #[.agg #[.int .i64 x.s, .int .i64 x.a, .int .i64 x.ms, .int .i64 (x.ps + 1), .int .i64 x.pa, .int .i64 0, .int .i64 x.polls, .int .i64 (x.most : Int), .slice P.W x.wait.length P.cw, .slice P.K x.kept.length P.ck, .slice P.L x.last.length P.cl, .slice P.G x.again.length P.cg], .bool true])) W) := fun W ht => by
    have h1 := hw4.out; have h5 := ht.size
    have h6 := HI.out.done (S4.out.away ht (fun k hk hf => by
        have hk : k = w.heap.size + 1 + 1 := hk
        rcases hf with hf | hf
        · have := HLIM.out k hf; omega
        · omega)) (I4.out.touch D4.out ht (fun k hk hk2 => by
        have hk2 : k = w.heap.size + 1 + 1 := hk2
        rcases hk with hk | hk
        · have := HDL.out k hk; omega
        · omega)) D4.out (T4.out.trans ht (fun k hk e => by have e : k = w.heap.size + 1 + 1 := e; omega)) HOY.out (.inl (Nat.le_refl _)) (Nat.le_refl _) (Nat.le_refl _) (by omega) (by omega)
    rw [← HY.out] at h6 ⊢
    exact h6
  have HO1 := Lib.hid (r01of_any (x.ps + 1))
  have HO2 := Lib.hid (r01of_any x.s)
  have hnb : (0 ≤ (x.ps + 1) % 16777216 ∧ (x.ps + 1) % 16777216 < 16777216) ∧ (0 ≤ x.s % 16777216 ∧ x.s % 16777216 < 16777216) := by omega
  generalize (x.ps + 1) % 16777216 = m1 at *
  generalize x.s % 16777216 = m2 at *
  have hw1 : IntKind.i64.wrap m1 = m1 := IntWalk.i64_in _ (by omega)
  have hw2 : IntKind.i64.wrap m2 = m2 := IntWalk.i64_in _ (by omega)
  have hn1 : (m1 == m1) = true := by simp
  have hn2 : (m2 == m2) = true := by simp
  have q0 : w4.cell? ⟨w.heap.size, 0, none⟩ = some (.int .i64 x.s) := B4.out.cell 0
  have q1 : w4.cell? ⟨w.heap.size, 1, none⟩ = some (.int .i64 x.a) := B4.out.cell 1
  have q2 : w4.cell? ⟨w.heap.size, 2, none⟩ = some (.int .i64 x.ms) := B4.out.cell 2
  have q3 : w4.cell? ⟨w.heap.size, 3, none⟩ = some (.int .i64 (x.ps + 1)) := B4.out.cell 3
  have q4 : w4.cell? ⟨w.heap.size, 4, none⟩ = some (.int .i64 x.pa) := B4.out.cell 4
  have q5 : w4.cell? ⟨w.heap.size, 5, none⟩ = some (.int .i64 0) := B4.out.cell 5
  have q6 : w4.cell? ⟨w.heap.size, 6, none⟩ = some (.int .i64 x.polls) := B4.out.cell 6
  have q7 : w4.cell? ⟨w.heap.size, 7, none⟩ = some (.int .i64 (x.most : Int)) := B4.out.cell 7
  have q8 : w4.cell? ⟨w.heap.size, 8, none⟩ = some (.slice P.W x.wait.length P.cw) := B4.out.cell 8
  have q9 : w4.cell? ⟨w.heap.size, 9, none⟩ = some (.slice P.K x.kept.length P.ck) := B4.out.cell 9
  have qa : w4.cell? ⟨w.heap.size, 10, none⟩ = some (.slice P.L x.last.length P.cl) := B4.out.cell 10
  have qb : w4.cell? ⟨w.heap.size, 11, none⟩ = some (.slice P.G x.again.length P.cg) := B4.out.cell 11
  have r0 : w4.cell? ⟨w.heap.size + 1 + 1, 0, none⟩ = some (.int .i64 0) := R4.out.cell 0
  have r1 : w4.cell? ⟨w.heap.size + 1 + 1, 1, none⟩ = some (.int .i64 0) := R4.out.cell 1
  have r2 : w4.cell? ⟨w.heap.size + 1 + 1, 2, none⟩ = some (.int .i64 0) := R4.out.cell 2
  have r3 : w4.cell? ⟨w.heap.size + 1 + 1, 3, none⟩ = some (.int .i64 0) := R4.out.cell 3
  have r4 : w4.cell? ⟨w.heap.size + 1 + 1, 4, none⟩ = some (.int .i64 0) := R4.out.cell 4
  have r5 : w4.cell? ⟨w.heap.size + 1 + 1, 5, none⟩ = some (.int .i64 0) := R4.out.cell 5
  have r6 : w4.cell? ⟨w.heap.size + 1 + 1, 6, none⟩ = some (.int .i64 0) := R4.out.cell 6
  have r7 : w4.cell? ⟨w.heap.size + 1 + 1, 7, none⟩ = some (.int .i64 0) := R4.out.cell 7
  have r8 : w4.cell? ⟨w.heap.size + 1 + 1, 8, none⟩ = some (.slice none 0 0) := R4.out.cell 8
  have r9 : w4.cell? ⟨w.heap.size + 1 + 1, 9, none⟩ = some (.slice none 0 0) := R4.out.cell 9
  have ra : w4.cell? ⟨w.heap.size + 1 + 1, 10, none⟩ = some (.slice none 0 0) := R4.out.cell 10
  have rb : w4.cell? ⟨w.heap.size + 1 + 1, 11, none⟩ = some (.slice none 0 0) := R4.out.cell 11
  have fz := fun i => R4.out.frozen i
  have KE : Hid (∀ W, Touch (· = w.heap.size + 1 + 1) w4 W → W.cell? ⟨w.heap.size, 0, none⟩ = some (.int .i64 x.s) ∧ W.cell? ⟨w.heap.size, 1, none⟩ = some (.int .i64 x.a) ∧ W.cell? ⟨w.heap.size, 2, none⟩ = some (.int .i64 x.ms) ∧ W.cell? ⟨w.heap.size, 3, none⟩ = some (.int .i64 (x.ps + 1)) ∧ W.cell? ⟨w.heap.size, 4, none⟩ = some (.int .i64 x.pa) ∧ W.cell? ⟨w.heap.size, 5, none⟩ = some (.int .i64 0) ∧ W.cell? ⟨w.heap.size, 6, none⟩ = some (.int .i64 x.polls) ∧ W.cell? ⟨w.heap.size, 7, none⟩ = some (.int .i64 (x.most : Int)) ∧ W.cell? ⟨w.heap.size, 8, none⟩ = some (.slice P.W x.wait.length P.cw) ∧ W.cell? ⟨w.heap.size, 9, none⟩ = some (.slice P.K x.kept.length P.ck) ∧ W.cell? ⟨w.heap.size, 10, none⟩ = some (.slice P.L x.last.length P.cl) ∧ W.cell? ⟨w.heap.size, 11, none⟩ = some (.slice P.G x.again.length P.cg)) := fun W ht => by
    have hb := ht.blk B4.out (by omega)
    exact ⟨hb.cell 0, hb.cell 1, hb.cell 2, hb.cell 3, hb.cell 4, hb.cell 5, hb.cell 6, hb.cell 7, hb.cell 8, hb.cell 9, hb.cell 10, hb.cell 11⟩
  clear B4 R4 I4 S4 T4 D4 HI HOK HOY HLIM HDL HOFF HAM HC2 HNB HY HB2 F2
  simp only
  go_wp2_with fail
  have T1 : Touch (· = w.heap.size + 1 + 1) w4 w4.drew := (Touch.refl _ _).drew
  have T2 : ∀ u0 u1 u2 u3 u4 u5 u6 u7 u8 u9 ua ub : Value, Touch (· = w.heap.size + 1 + 1) w4 (((((((((((((w4.setCell ⟨w.heap.size + 1 + 1, 0, none⟩ u0).setCell ⟨w.heap.size + 1 + 1, 1, none⟩ u1).setCell ⟨w.heap.size + 1 + 1, 2, none⟩ u2).setCell ⟨w.heap.size + 1 + 1, 3, none⟩ u3).setCell ⟨w.heap.size + 1 + 1, 4, none⟩ u4).setCell ⟨w.heap.size + 1 + 1, 5, none⟩ u5).setCell ⟨w.heap.size + 1 + 1, 6, none⟩ u6).setCell ⟨w.heap.size + 1 + 1, 7, none⟩ u7).setCell ⟨w.heap.size + 1 + 1, 8, none⟩ u8).setCell ⟨w.heap.size + 1 + 1, 9, none⟩ u9).setCell ⟨w.heap.size + 1 + 1, 10, none⟩ ua).setCell ⟨w.heap.size + 1 + 1, 11, none⟩ ub).drew) := fun _ _ _ _ _ _ _ _ _ _ _ _ => (Touch.st12 (S := (· = w.heap.size + 1 + 1)) (Touch.refl _ _) rfl).drew
  go_region_held3 (fun wx => wx.cell? ⟨w.heap.size, 0, none⟩ = some (.int .i64 x.s) ∧ wx.cell? ⟨w.heap.size, 1, none⟩ = some (.int .i64 x.a) ∧ wx.cell? ⟨w.heap.size, 2, none⟩ = some (.int .i64 x.ms) ∧ wx.cell? ⟨w.heap.size, 3, none⟩ = some (.int .i64 (x.ps + 1)) ∧ wx.cell? ⟨w.heap.size, 4, none⟩ = some (.int .i64 x.pa) ∧ wx.cell? ⟨w.heap.size, 5, none⟩ = some (.int .i64 0) ∧ wx.cell? ⟨w.heap.size, 6, none⟩ = some (.int .i64 x.polls) ∧ wx.cell? ⟨w.heap.size, 7, none⟩ = some (.int .i64 (x.most : Int)) ∧ wx.cell? ⟨w.heap.size, 8, none⟩ = some (.slice P.W x.wait.length P.cw) ∧ wx.cell? ⟨w.heap.size, 9, none⟩ = some (.slice P.K x.kept.length P.ck) ∧ wx.cell? ⟨w.heap.size, 10, none⟩ = some (.slice P.L x.last.length P.cl) ∧ wx.cell? ⟨w.heap.size, 11, none⟩ = some (.slice P.G x.again.length P.cg))
    (first
      | with_reducible exact KE.out _ (by with_reducible assumption)
      | with_reducible exact KE.out _ (T2 _ _ _ _ _ _ _ _ _ _ _ _))
    (first
      | (go_simp; go_at_call 32; (with_reducible refine (HO1.out _).mono ?_); rintro e' w6 ⟨rfl, h6⟩; subst h6)
      | (go_simp; go_at_call 32; (with_reducible refine (HO2.out _).mono ?_); rintro e' w6 ⟨rfl, h6⟩; subst h6))
  all_goals
    go_wp2
    exact bodyPost_ret (v := .tuple #[.agg #[.int .i64 x.s, .int .i64 x.a, .int .i64 x.ms, .int .i64 (x.ps + 1), .int .i64 x.pa, .int .i64 0, .int .i64 x.polls, .int .i64 (x.most : Int), .slice P.W x.wait.length P.cw, .slice P.K x.kept.length P.ck, .slice P.L x.last.length P.cl, .slice P.G x.again.length P.cg], .bool true]) (by simp [results, Tryz.results11, go_sem, r0, r1, r2, r3, r4, r5, r6, r7, r8, r9, ra, rb]) rfl (HX.out _ (T2 _ _ _ _ _ _ _ _ _ _ _ _))
end Go.Proofs.YtajdnllkkekmnaaGreat

namespace Go.Proofs.YtajdnllkkekmnaaGreat
open Go.RowKit

set_option maxHeartbeats 8000000 in
set_option maxRecDepth 8000 in
theorem step11_3 {lo hi : Int} (p : Nat) (F D : Nat → Prop) (P : SfP) (x : Sf.S) (a : Act11) (A : Option Addr) (c : Nat) (w : World) (h : St11 w p F D P x lo hi) (hA : Rd intE w A c a.l) (hAl : a.l.length ≤ 9223372036854775807) (ham : a.m.size ≤ maxLen) (hh : hi + 4 - lo ≤ 4000) (hk : a.kind = 3) {z : Sf.S × Int × Int} (hz : Sf.stat x (Sf.numR x a) (Sf.numM x a) (Sf.numP x a) (Sf.numL x a) = z) :
    Calls Tryz.prog 11 #[.pointer (some ⟨p, 0, none⟩), sfV x P, act11V a A c] w (StepPost w p F D z.1 lo (hi + 4)) := by
  have HI := Lib.hid h
  have HH := Lib.hid hh
  have hab : 0 ≤ x.a ∧ x.a ≤ 100000000 ∧ 0 ≤ x.s ∧ x.s ≤ 100000000 ∧ 0 ≤ x.pa ∧ x.pa ≤ 100000000 := by
    have h1 := h.ok.lo0; have h2 := h.ok.la; have h3 := h.ok.klen; have h4 := h.ok.shi; have h5 := h.ok.hl; have h6 := h.ok.lpa; have h7 := h.ok.pas; have h8 := h.ok.phi
    omega
  have HB : Hid (StBox w (((w.alloc (.cells #[.int .i64 x.s, .int .i64 x.a, .int .i64 x.ms, .int .i64 x.ps, .int .i64 x.pa, .int .i64 x.units, .int .i64 x.polls, .int .i64 (x.most : Int), .slice P.W x.wait.length P.cw, .slice P.K x.kept.length P.ck, .slice P.L x.last.length P.cl, .slice P.G x.again.length P.cg] 33)).alloc (.cells #[.int .i64 a.kind, .int .i64 a.r, .int .i64 a.mr, .int .i64 a.ps, .slice A a.l.length c, .bool a.raw, .string a.m] 38)).alloc (.cells #[.int .i64 0, .int .i64 0, .int .i64 0, .int .i64 0, .int .i64 0, .int .i64 0, .int .i64 0, .int .i64 0, .slice none 0 0, .slice none 0 0, .slice none 0 0, .slice none 0 0] 33)) P x a A c) := StBox.new w P x a A c
  have F1 : Hid (Fresh w (((w.alloc (.cells #[.int .i64 x.s, .int .i64 x.a, .int .i64 x.ms, .int .i64 x.ps, .int .i64 x.pa, .int .i64 x.units, .int .i64 x.polls, .int .i64 (x.most : Int), .slice P.W x.wait.length P.cw, .slice P.K x.kept.length P.ck, .slice P.L x.last.length P.cl, .slice P.G x.again.length P.cg] 33)).alloc (.cells #[.int .i64 a.kind, .int .i64 a.r, .int .i64 a.mr, .int .i64 a.ps, .slice A a.l.length c, .bool a.raw, .string a.m] 38)).alloc (.cells #[.int .i64 0, .int .i64 0, .int .i64 0, .int .i64 0, .int .i64 0, .int .i64 0, .int .i64 0, .int .i64 0, .slice none 0 0, .slice none 0 0, .slice none 0 0, .slice none 0 0] 33))) := (((Touch.refl _ _).alloc _).alloc _).alloc _
  have HNU : Hid (∀ W, Fresh w W → Calls Tryz.prog 15 #[act11V a A c, sfV x P] W fun e w' => ∃ C d, e = .returned (.tuple #[.int .i64 (Sf.numR x a), .int .i64 (Sf.numM x a), .int .i64 (Sf.numP x a), .slice C (Sf.numL x a).length d]) ∧ Mine intE W w' C d (Sf.numL x a)) := fun W hf =>
    nums11_any a A c x P W (hA.touch hf (fun _ _ _ h => h)) hAl hab
  have HNB : Hid ((0 ≤ Sf.numR x a ∧ Sf.numR x a < 16777216) ∧ (0 ≤ Sf.numM x a ∧ Sf.numM x a < 16777216) ∧ (0 ≤ Sf.numP x a ∧ Sf.numP x a < 16777216) ∧ (Sf.numL x a).map (fun n => n % 16777216) = Sf.numL x a ∧ (Sf.numL x a).length ≤ 12) := ⟨near11_bd _ _ _, near11_bd _ _ _, near11_bd _ _ _, numL_low x a, numL_len x a⟩
  have HOK := Lib.hid h.ok
  have HLIM := Lib.hid h.lim
  have HDL := Lib.hid h.dlim
  have HOFF := Lib.hid h.off
  have HAM := Lib.hid ham
  clear h hh hA ham
  unfold sfV act11V at HNU
  unfold sfV act11V
  have HKD := Lib.hid hk
  rw [hk] at HB F1 HNU ⊢
  clear hk
  generalize Sf.numR x a = nr at *
  generalize Sf.numM x a = nm at *
  generalize Sf.numP x a = np at *
  generalize Sf.numL x a = nl at *
  go_enter Tryz.func11, Tryz.ntmps11
  go_upto_region 1 with (fail)
  generalize World.alloc (World.alloc (World.alloc w _) _) _ = w1 at *
  have b0 : w1.cell? ⟨w.heap.size, 0, none⟩ = some (.int .i64 x.s) := HB.out.sf.cell 0
  have b1 : w1.cell? ⟨w.heap.size, 1, none⟩ = some (.int .i64 x.a) := HB.out.sf.cell 1
  have b2 : w1.cell? ⟨w.heap.size, 2, none⟩ = some (.int .i64 x.ms) := HB.out.sf.cell 2
  have b3 : w1.cell? ⟨w.heap.size, 3, none⟩ = some (.int .i64 x.ps) := HB.out.sf.cell 3
  have b4 : w1.cell? ⟨w.heap.size, 4, none⟩ = some (.int .i64 x.pa) := HB.out.sf.cell 4
  have b5 : w1.cell? ⟨w.heap.size, 5, none⟩ = some (.int .i64 x.units) := HB.out.sf.cell 5
  have b6 : w1.cell? ⟨w.heap.size, 6, none⟩ = some (.int .i64 x.polls) := HB.out.sf.cell 6
  have b7 : w1.cell? ⟨w.heap.size, 7, none⟩ = some (.int .i64 (x.most : Int)) := HB.out.sf.cell 7
  have b8 : w1.cell? ⟨w.heap.size, 8, none⟩ = some (.slice P.W x.wait.length P.cw) := HB.out.sf.cell 8
  have b9 : w1.cell? ⟨w.heap.size, 9, none⟩ = some (.slice P.K x.kept.length P.ck) := HB.out.sf.cell 9
  have ba : w1.cell? ⟨w.heap.size, 10, none⟩ = some (.slice P.L x.last.length P.cl) := HB.out.sf.cell 10
  have bb : w1.cell? ⟨w.heap.size, 11, none⟩ = some (.slice P.G x.again.length P.cg) := HB.out.sf.cell 11
  have a0 : w1.cell? ⟨w.heap.size + 1, 0, none⟩ = some (.int .i64 3) := by have := HB.out.act.cell 0; unfold act11C at this; rw [HKD.out] at this; simpa using this
  have a1 : w1.cell? ⟨w.heap.size + 1, 1, none⟩ = some (.int .i64 a.r) := by have := HB.out.act.cell 1; unfold act11C at this; simpa using this
  have a2 : w1.cell? ⟨w.heap.size + 1, 2, none⟩ = some (.int .i64 a.mr) := by have := HB.out.act.cell 2; unfold act11C at this; simpa using this
  have a3 : w1.cell? ⟨w.heap.size + 1, 3, none⟩ = some (.int .i64 a.ps) := by have := HB.out.act.cell 3; unfold act11C at this; simpa using this
  have a4 : w1.cell? ⟨w.heap.size + 1, 4, none⟩ = some (.slice A a.l.length c) := by have := HB.out.act.cell 4; unfold act11C at this; simpa using this
  have a5 : w1.cell? ⟨w.heap.size + 1, 5, none⟩ = some (.bool a.raw) := by have := HB.out.act.cell 5; unfold act11C at this; simpa using this
  have a6 : w1.cell? ⟨w.heap.size + 1, 6, none⟩ = some (.string a.m) := by have := HB.out.act.cell 6; unfold act11C at this; simpa using this
  go_wp2_with fail
  refine (HNU.out w1 F1.out).mono ?_
  rintro e w2 ⟨C, d, rfl, m⟩
  have HB2 := Lib.hid (HB.out.old m.fresh)
  have F2 : Hid (Fresh w w2) := F1.out.trans m.fresh (fun _ _ h => h)
  have HC2 : Hid (Sl intE w2 C d nl) := m.sl
  have hwz : Hid (w.heap.size + 1 + 1 < w2.heap.size) := HB2.out.res.lt
  clear b0 b1 b2 b3 b4 b5 b6 b7 b8 b9 ba bb a0 a1 a2 a3 a4 a5 a6 m HNU HB F1
  simp only
  have b0 : w2.cell? ⟨w.heap.size, 0, none⟩ = some (.int .i64 x.s) := HB2.out.sf.cell 0
  have b1 : w2.cell? ⟨w.heap.size, 1, none⟩ = some (.int .i64 x.a) := HB2.out.sf.cell 1
  have b2 : w2.cell? ⟨w.heap.size, 2, none⟩ = some (.int .i64 x.ms) := HB2.out.sf.cell 2
  have b3 : w2.cell? ⟨w.heap.size, 3, none⟩ = some (.int .i64 x.ps) := HB2.out.sf.cell 3
  have b4 : w2.cell? ⟨w.heap.size, 4, none⟩ = some (.int .i64 x.pa) := HB2.out.sf.cell 4
  have b5 : w2.cell? ⟨w.heap.size, 5, none⟩ = some (.int .i64 x.units) := HB2.out.sf.cell 5
  have b6 : w2.cell? ⟨w.heap.size, 6, none⟩ = some (.int .i64 x.polls) := HB2.out.sf.cell 6
  have b7 : w2.cell? ⟨w.heap.size, 7, none⟩ = some (.int .i64 (x.most : Int)) := HB2.out.sf.cell 7
  have b8 : w2.cell? ⟨w.heap.size, 8, none⟩ = some (.slice P.W x.wait.length P.cw) := HB2.out.sf.cell 8
  have b9 : w2.cell? ⟨w.heap.size, 9, none⟩ = some (.slice P.K x.kept.length P.ck) := HB2.out.sf.cell 9
  have ba : w2.cell? ⟨w.heap.size, 10, none⟩ = some (.slice P.L x.last.length P.cl) := HB2.out.sf.cell 10
  have bb : w2.cell? ⟨w.heap.size, 11, none⟩ = some (.slice P.G x.again.length P.cg) := HB2.out.sf.cell 11
  have a0 : w2.cell? ⟨w.heap.size + 1, 0, none⟩ = some (.int .i64 3) := by have := HB2.out.act.cell 0; unfold act11C at this; rw [HKD.out] at this; simpa using this
  have a6 : w2.cell? ⟨w.heap.size + 1, 6, none⟩ = some (.string a.m) := by have := HB2.out.act.cell 6; unfold act11C at this; simpa using this
  have hnl : nl.length ≤ 12 := HNB.out.2.2.2.2
  have HNX := Lib.hid (sfrep_any true P D x nr nm np C d nl w2 (HI.out.ins.old F2.out) HI.out.dom (fun k hk => Nat.lt_of_lt_of_le (HDL.out k hk) F2.out.size) HOK.out HC2.out.rd (by omega))
  have hsel : (if true = true then Sf.stat x nr nm np nl else Sf.ustat x nr nm nl) = z := hz
  rw [hsel] at HNX
  have HOY : Hid (Sf.Ok z.1 lo (hi + 4)) := by rw [← hz]; exact (HOK.out.stat _ _ _ _).mono (by omega) HH.out
  have HNP : Hid (∀ (W : World) (B5 : Option Addr) (d5 : Nat), SendAt W p F (Sf.prog x) → Rd numE W B5 d5 nl → Calls Tryz.prog 16 #[.pointer (some ⟨p, 0, none⟩), .int .u32 nr, .int .u32 nm, .int .u32 np, .slice B5 nl.length d5] W (StatPost p F z W)) := fun W B5 d5 hW hr => by
    rw [← hz]
    exact sstat_any p F x lo hi HOK.out nr nm np B5 d5 nl W hW hr (by omega) HNB.out.2.1
  clear hz hsel
  obtain ⟨y, n, er⟩ := z
  unfold SfRepPost at HNX
  unfold StatPost at HNP
  simp only at HNX HNP HOY ⊢
  unfold sfV at HNX
  go_wp2_with fail
  refine HNX.out.mono ?_
  rintro e w3 ⟨V, rfl, ho⟩
  obtain ⟨Q, rfl, i3, d3, f3⟩ := ho.open_
  have HB3 := Lib.hid (HB2.out.old f3)
  have F3 : Hid (Fresh w w3) := F2.out.trans f3 (fun _ _ h => h)
  have I3 := Lib.hid i3
  have D3 := Lib.hid d3
  have C3 : Hid (Sl intE w3 C d nl) := HC2.out.touch f3 (fun _ _ h => h)
  have hz3 : Hid (w2.heap.size ≤ w3.heap.size) := f3.size
  clear ho i3 d3 f3 HNX HB2 F2 HC2 b0 b1 b2 b3 b4 b5 b6 b7 b8 b9 ba bb a0 a6
  unfold sfV
  simp only
  go_upto_region 14 with (fail)
  have HB12 : Hid (Blk (w3.alloc (.cells #[.int .i64 y.s, .int .i64 y.a, .int .i64 y.ms, .int .i64 y.ps, .int .i64 y.pa, .int .i64 y.units, .int .i64 y.polls, .int .i64 (y.most : Int), .slice Q.W y.wait.length Q.cw, .slice Q.K y.kept.length Q.ck, .slice Q.L y.last.length Q.cl, .slice Q.G y.again.length Q.cg] 33)) w3.heap.size 33 (sfCells y Q)) := Blk.new w3 _ (sfCells y Q)
  have f4 : Fresh w3 (w3.alloc (.cells #[.int .i64 y.s, .int .i64 y.a, .int .i64 y.ms, .int .i64 y.ps, .int .i64 y.pa, .int .i64 y.units, .int .i64 y.polls, .int .i64 (y.most : Int), .slice Q.W y.wait.length Q.cw, .slice Q.K y.kept.length Q.ck, .slice Q.L y.last.length Q.cl, .slice Q.G y.again.length Q.cg] 33)) := (Touch.refl _ _).alloc _
  have HB4 := Lib.hid (HB3.out.old f4)
  have F4 : Hid (Fresh w (w3.alloc (.cells #[.int .i64 y.s, .int .i64 y.a, .int .i64 y.ms, .int .i64 y.ps, .int .i64 y.pa, .int .i64 y.units, .int .i64 y.polls, .int .i64 (y.most : Int), .slice Q.W y.wait.length Q.cw, .slice Q.K y.kept.length Q.ck, .slice Q.L y.last.length Q.cl, .slice Q.G y.again.length Q.cg] 33))) := F3.out.trans f4 (fun _ _ h => h)
  have I4 := Lib.hid (I3.out.old f4)
  have C4 : Hid (Sl intE (w3.alloc (.cells #[.int .i64 y.s, .int .i64 y.a, .int .i64 y.ms, .int .i64 y.ps, .int .i64 y.pa, .int .i64 y.units, .int .i64 y.polls, .int .i64 (y.most : Int), .slice Q.W y.wait.length Q.cw, .slice Q.K y.kept.length Q.ck, .slice Q.L y.last.length Q.cl, .slice Q.G y.again.length Q.cg] 33)) C d nl) := C3.out.touch f4 (fun _ _ h => h)
  have hz4 : Hid (w3.heap.size < (w3.alloc (.cells #[.int .i64 y.s, .int .i64 y.a, .int .i64 y.ms, .int .i64 y.ps, .int .i64 y.pa, .int .i64 y.units, .int .i64 y.polls, .int .i64 (y.most : Int), .slice Q.W y.wait.length Q.cw, .slice Q.K y.kept.length Q.ck, .slice Q.L y.last.length Q.cl, .slice Q.G y.again.length Q.cg] 33)).heap.size) := HB12.out.lt
  clear f4 HB3 F3 I3 C3
  generalize World.alloc w3 _ = w4 at *
  have a0 : w4.cell? ⟨w.heap.size + 1, 0, none⟩ = some (.int .i64 3) := by have := HB4.out.act.cell 0; unfold act11C at this; rw [HKD.out] at this; simpa using this
  have HO1 : Hid (∀ W, Calls Tryz.prog 9 #[.int .i64 nr] W fun e w' => e = .returned (.int .u32 nr) ∧ w' = W) := fun W => by
    have := sof_any nr W
    rwa [Int.emod_eq_of_lt HNB.out.1.1 HNB.out.1.2] at this
  have HO2 : Hid (∀ W, Calls Tryz.prog 9 #[.int .i64 nm] W fun e w' => e = .returned (.int .u32 nm) ∧ w' = W) := fun W => by
    have := sof_any nm W
    rwa [Int.emod_eq_of_lt HNB.out.2.1.1 HNB.out.2.1.2] at this
  have HO3 : Hid (∀ W, Calls Tryz.prog 9 #[.int .i64 np] W fun e w' => e = .returned (.int .u32 np) ∧ w' = W) := fun W => by
    have := sof_any np W
    rwa [Int.emod_eq_of_lt HNB.out.2.2.1.1 HNB.out.2.2.1.2] at this
  have HOW := Lib.hid (own11_any C d nl w4 C4.out.rd (by omega))
  rw [HNB.out.2.2.2.1] at HOW
  clear C4
  go_wp2_with fail
  refine (HO1.out _).mono ?_
  rintro e w5 ⟨rfl, h5⟩
  have h5 := h5.symm
  subst h5
  simp only
  go_wp2_with fail
  refine (HO2.out _).mono ?_
  rintro e w6 ⟨rfl, h6⟩
  have h6 := h6.symm
  subst h6
  simp only
  go_wp2_with fail
  refine (HO3.out _).mono ?_
  rintro e w6 ⟨rfl, h6⟩
  have h6 := h6.symm
  subst h6
  simp only
  go_wp2_with fail
  refine HOW.out.mono ?_
  rintro e w7 ⟨B7, d7, rfl, m7⟩
  have HB7 := Lib.hid (HB4.out.old m7.fresh)
  have F7 : Hid (Fresh w w7) := F4.out.trans m7.fresh (fun _ _ h => h)
  have I7 := Lib.hid (I4.out.old m7.fresh)
  have HB12b := Lib.hid (m7.fresh.blk HB12.out (fun h => h))
  have C7 := Lib.hid m7.sl.rd
  have hz7 : Hid (w4.heap.size ≤ w7.heap.size) := m7.fresh.size
  clear m7 HOW HB4 F4 I4 HB12 a0
  generalize w4.heap.size = z4 at *
  simp only
  go_wp2_with fail
  refine (HNP.out w7 B7 d7 (HI.out.send.old F7.out) C7.out).mono ?_
  rintro e w5 ⟨rfl, s5, t5⟩
  have S5 := Lib.hid s5.within
  have HB5 := Lib.hid (HB7.out.touch t5 (fun k hk => .inl (HLIM.out k hk)))
  have HB12' := Lib.hid (t5.blk HB12b.out (fun hk => by have h1 := HLIM.out _ hk; have h2 := hwz.out; have h3 := hz3.out; omega))
  have I5 := Lib.hid (I7.out.touch D3.out t5 (fun k hk hf => by
    have h1 := HLIM.out k hf
    rcases hk with hk | hk
    · exact HOFF.out k hf hk
    · have h2 := hwz.out; omega))
  have T5 : Hid (Touch F w w5) := (F7.out.mono (fun _ _ h => h.elim)).trans t5 (fun _ _ h => h)
  have hz5 : Hid (w7.heap.size ≤ w5.heap.size) := t5.size
  clear s5 t5 HNP HB7 HB12b I7 F7
  have HX : Hid (∀ W, Touch (· = w.heap.size + 1 + 1) w5 W → StepPost w p F D y lo (hi + 4) (.returned (.tuple #[.agg #[.int .i64 y.s, .int .i64 y.a, .int .i64 y.ms, .int .i64 y.ps, .int .i64 y.pa, .int .i64 y.units, .int .i64 y.polls, .int .i64 (y.most : Int), .slice Q.W y.wait.length Q.cw, .slice Q.K y.kept.length Q.ck, .slice Q.L y.last.length Q.cl, .slice Q.G y.again.length Q.cg], .bool true])) W) := fun W ht => by
    have h1 := hwz.out; have h2 := hz3.out; have h3 := hz4.out; have h4 := hz5.out; have h7 := hz7.out; have h5 := ht.size
    exact HI.out.done (S5.out.away ht (fun k hk hf => by
        have hk : k = w.heap.size + 1 + 1 := hk
        rcases hf with hf | hf
        · have := HLIM.out k hf; omega
        · omega)) (I5.out.touch D3.out ht (fun k hk hk2 => by
        have hk2 : k = w.heap.size + 1 + 1 := hk2
        rcases hk with hk | hk
        · have := HDL.out k hk; omega
        · omega)) D3.out (T5.out.trans ht (fun k hk e => by have e : k = w.heap.size + 1 + 1 := e; omega)) HOY.out (.inr (by omega)) (by omega) (by omega) (by omega) (by omega)
  obtain ⟨b12, hb12⟩ : ∃ b, w3.heap.size = b := ⟨_, rfl⟩
  rw [hb12] at HB12' ⊢
  clear hb12
  have q0 : w5.cell? ⟨b12, 0, none⟩ = some (.int .i64 y.s) := HB12'.out.cell 0
  have q1 : w5.cell? ⟨b12, 1, none⟩ = some (.int .i64 y.a) := HB12'.out.cell 1
  have q2 : w5.cell? ⟨b12, 2, none⟩ = some (.int .i64 y.ms) := HB12'.out.cell 2
  have q3 : w5.cell? ⟨b12, 3, none⟩ = some (.int .i64 y.ps) := HB12'.out.cell 3
  have q4 : w5.cell? ⟨b12, 4, none⟩ = some (.int .i64 y.pa) := HB12'.out.cell 4
  have q5 : w5.cell? ⟨b12, 5, none⟩ = some (.int .i64 y.units) := HB12'.out.cell 5
  have q6 : w5.cell? ⟨b12, 6, none⟩ = some (.int .i64 y.polls) := HB12'.out.cell 6
  have q7 : w5.cell? ⟨b12, 7, none⟩ = some (.int .i64 (y.most : Int)) := HB12'.out.cell 7
  have q8 : w5.cell? ⟨b12, 8, none⟩ = some (.slice Q.W y.wait.length Q.cw) := HB12'.out.cell 8
  have q9 : w5.cell? ⟨b12, 9, none⟩ = some (.slice Q.K y.kept.length Q.ck) := HB12'.out.cell 9
  have qa : w5.cell? ⟨b12, 10, none⟩ = some (.slice Q.L y.last.length Q.cl) := HB12'.out.cell 10
  have qb : w5.cell? ⟨b12, 11, none⟩ = some (.slice Q.G y.again.length Q.cg) := HB12'.out.cell 11
  have r0 : w5.cell? ⟨w.heap.size + 1 + 1, 0, none⟩ = some (.int .i64 0) := HB5.out.res.cell 0
  have r1 : w5.cell? ⟨w.heap.size + 1 + 1, 1, none⟩ = some (.int .i64 0) := HB5.out.res.cell 1
  have r2 : w5.cell? ⟨w.heap.size + 1 + 1, 2, none⟩ = some (.int .i64 0) := HB5.out.res.cell 2
  have r3 : w5.cell? ⟨w.heap.size + 1 + 1, 3, none⟩ = some (.int .i64 0) := HB5.out.res.cell 3
  have r4 : w5.cell? ⟨w.heap.size + 1 + 1, 4, none⟩ = some (.int .i64 0) := HB5.out.res.cell 4
  have r5 : w5.cell? ⟨w.heap.size + 1 + 1, 5, none⟩ = some (.int .i64 0) := HB5.out.res.cell 5
  have r6 : w5.cell? ⟨w.heap.size + 1 + 1, 6, none⟩ = some (.int .i64 0) := HB5.out.res.cell 6
  have r7 : w5.cell? ⟨w.heap.size + 1 + 1, 7, none⟩ = some (.int .i64 0) := HB5.out.res.cell 7
  have r8 : w5.cell? ⟨w.heap.size + 1 + 1, 8, none⟩ = some (.slice none 0 0) := HB5.out.res.cell 8
  have r9 : w5.cell? ⟨w.heap.size + 1 + 1, 9, none⟩ = some (.slice none 0 0) := HB5.out.res.cell 9
  have ra : w5.cell? ⟨w.heap.size + 1 + 1, 10, none⟩ = some (.slice none 0 0) := HB5.out.res.cell 10
  have rb : w5.cell? ⟨w.heap.size + 1 + 1, 11, none⟩ = some (.slice none 0 0) := HB5.out.res.cell 11
  have fz := fun i => HB5.out.res.frozen i
  clear HB12' HB5 I5 S5 T5 D3 HI HOK HOY HLIM HDL HOFF HAM HNB
  simp only
  go_wp2
  exact bodyPost_ret (v := .tuple #[.agg #[.int .i64 y.s, .int .i64 y.a, .int .i64 y.ms, .int .i64 y.ps, .int .i64 y.pa, .int .i64 y.units, .int .i64 y.polls, .int .i64 (y.most : Int), .slice Q.W y.wait.length Q.cw, .slice Q.K y.kept.length Q.ck, .slice Q.L y.last.length Q.cl, .slice Q.G y.again.length Q.cg], .bool true]) (by simp [results, Tryz.results11, go_sem, r0, r1, r2, r3, r4, r5, r6, r7, r8, r9, ra, rb]) rfl (HX.out _ (Touch.st12 (S := (· = w.heap.size + 1 + 1)) (Touch.refl _ _) rfl))
end Go.Proofs.YtajdnllkkekmnaaGreat

namespace Go.Proofs.YtajdnllkkekmnaaGreat
open Go.RowKit

set_option maxHeartbeats 8000000 in
set_option maxRecDepth 8000 in
theorem step11_4 {lo hi : Int} (p : Nat) (F D : Nat → Prop) (P : SfP) (x : Sf.S) (a : Act11) (A : Option Addr) (c : Nat) (w : World) (h : St11 w p F D P x lo hi) (hA : Rd intE w A c a.l) (hAl : a.l.length ≤ 9223372036854775807) (ham : a.m.size ≤ maxLen) (hh : hi + 4 - lo ≤ 4000) (hk : a.kind = 4) {z : Sf.S × Int × Int} (hz : Sf.ustat x (Sf.numR x a) (Sf.numM x a) (Sf.numL x a) = z) :
    Calls Tryz.prog 11 #[.pointer (some ⟨p, 0, none⟩), sfV x P, act11V a A c] w (StepPost w p F D z.1 lo (hi + 4)) := by
  have HI := Lib.hid h
  have HH := Lib.hid hh
  have hab : 0 ≤ x.a ∧ x.a ≤ 100000000 ∧ 0 ≤ x.s ∧ x.s ≤ 100000000 ∧ 0 ≤ x.pa ∧ x.pa ≤ 100000000 := by
    have h1 := h.ok.lo0; have h2 := h.ok.la; have h3 := h.ok.klen; have h4 := h.ok.shi; have h5 := h.ok.hl; have h6 := h.ok.lpa; have h7 := h.ok.pas; have h8 := h.ok.phi
    omega
  have HB : Hid (StBox w (((w.alloc (.cells #[.int .i64 x.s, .int .i64 x.a, .int .i64 x.ms, .int .i64 x.ps, .int .i64 x.pa, .int .i64 x.units, .int .i64 x.polls, .int .i64 (x.most : Int), .slice P.W x.wait.length P.cw, .slice P.K x.kept.length P.ck, .slice P.L x.last.length P.cl, .slice P.G x.again.length P.cg] 33)).alloc (.cells #[.int .i64 a.kind, .int .i64 a.r, .int .i64 a.mr, .int .i64 a.ps, .slice A a.l.length c, .bool a.raw, .string a.m] 38)).alloc (.cells #[.int .i64 0, .int .i64 0, .int .i64 0, .int .i64 0, .int .i64 0, .int .i64 0, .int .i64 0, .int .i64 0, .slice none 0 0, .slice none 0 0, .slice none 0 0, .slice none 0 0] 33)) P x a A c) := StBox.new w P x a A c
  have F1 : Hid (Fresh w (((w.alloc (.cells #[.int .i64 x.s, .int .i64 x.a, .int .i64 x.ms, .int .i64 x.ps, .int .i64 x.pa, .int .i64 x.units, .int .i64 x.polls, .int .i64 (x.most : Int), .slice P.W x.wait.length P.cw, .slice P.K x.kept.length P.ck, .slice P.L x.last.length P.cl, .slice P.G x.again.length P.cg] 33)).alloc (.cells #[.int .i64 a.kind, .int .i64 a.r, .int .i64 a.mr, .int .i64 a.ps, .slice A a.l.length c, .bool a.raw, .string a.m] 38)).alloc (.cells #[.int .i64 0, .int .i64 0, .int .i64 0, .int .i64 0, .int .i64 0, .int .i64 0, .int .i64 0, .int .i64 0, .slice none 0 0, .slice none 0 0, .slice none 0 0, .slice none 0 0] 33))) := (((Touch.refl _ _).alloc _).alloc _).alloc _
  have HNU : Hid (∀ W, Fresh w W → Calls Tryz.prog 15 #[act11V a A c, sfV x P] W fun e w' => ∃ C d, e = .returned (.tuple #[.int .i64 (Sf.numR x a), .int .i64 (Sf.numM x a), .int .i64 (Sf.numP x a), .slice C (Sf.numL x a).length d]) ∧ Mine intE W w' C d (Sf.numL x a)) := fun W hf =>
    nums11_any a A c x P W (hA.touch hf (fun _ _ _ h => h)) hAl hab
  have HNB : Hid ((0 ≤ Sf.numR x a ∧ Sf.numR x a < 16777216) ∧ (0 ≤ Sf.numM x a ∧ Sf.numM x a < 16777216) ∧ (0 ≤ Sf.numP x a ∧ Sf.numP x a < 16777216) ∧ (Sf.numL x a).map (fun n => n % 16777216) = Sf.numL x a ∧ (Sf.numL x a).length ≤ 12) := ⟨near11_bd _ _ _, near11_bd _ _ _, near11_bd _ _ _, numL_low x a, numL_len x a⟩
  have HOK := Lib.hid h.ok
  have HLIM := Lib.hid h.lim
  have HDL := Lib.hid h.dlim
  have HOFF := Lib.hid h.off
  have HAM := Lib.hid ham
  clear h hh hA ham
  unfold sfV act11V at HNU
  unfold sfV act11V
  have HKD := Lib.hid hk
  rw [hk] at HB F1 HNU ⊢
  clear hk
  generalize Sf.numR x a = nr at *
  generalize Sf.numM x a = nm at *
  generalize Sf.numP x a = np at *
  generalize Sf.numL x a = nl at *
  go_enter Tryz.func11, Tryz.ntmps11
  go_upto_region 1 with (fail)
  generalize World.alloc (World.alloc (World.alloc w _) _) _ = w1 at *
  have b0 : w1.cell? ⟨w.heap.size, 0, none⟩ = some (.int .i64 x.s) := HB.out.sf.cell 0
  have b1 : w1.cell? ⟨w.heap.size, 1, none⟩ = some (.int .i64 x.a) := HB.out.sf.cell 1
  have b2 : w1.cell? ⟨w.heap.size, 2, none⟩ = some (.int .i64 x.ms) := HB.out.sf.cell 2
  have b3 : w1.cell? ⟨w.heap.size, 3, none⟩ = some (.int .i64 x.ps) := HB.out.sf.cell 3
  have b4 : w1.cell? ⟨w.heap.size, 4, none⟩ = some (.int .i64 x.pa) := HB.out.sf.cell 4
  have b5 : w1.cell? ⟨w.heap.size, 5, none⟩ = some (.int .i64 x.units) := HB.out.sf.cell 5
  have b6 : w1.cell? ⟨w.heap.size, 6, none⟩ = some (.int .i64 x.polls) := HB.out.sf.cell 6
  have b7 : w1.cell? ⟨w.heap.size, 7, none⟩ = some (.int .i64 (x.most : Int)) := HB.out.sf.cell 7
  have b8 : w1.cell? ⟨w.heap.size, 8, none⟩ = some (.slice P.W x.wait.length P.cw) := HB.out.sf.cell 8
  have b9 : w1.cell? ⟨w.heap.size, 9, none⟩ = some (.slice P.K x.kept.length P.ck) := HB.out.sf.cell 9
  have ba : w1.cell? ⟨w.heap.size, 10, none⟩ = some (.slice P.L x.last.length P.cl) := HB.out.sf.cell 10
  have bb : w1.cell? ⟨w.heap.size, 11, none⟩ = some (.slice P.G x.again.length P.cg) := HB.out.sf.cell 11
  have a0 : w1.cell? ⟨w.heap.size + 1, 0, none⟩ = some (.int .i64 4) := by have := HB.out.act.cell 0; unfold act11C at this; rw [HKD.out] at this; simpa using this
  have a1 : w1.cell? ⟨w.heap.size + 1, 1, none⟩ = some (.int .i64 a.r) := by have := HB.out.act.cell 1; unfold act11C at this; simpa using this
  have a2 : w1.cell? ⟨w.heap.size + 1, 2, none⟩ = some (.int .i64 a.mr) := by have := HB.out.act.cell 2; unfold act11C at this; simpa using this
  have a3 : w1.cell? ⟨w.heap.size + 1, 3, none⟩ = some (.int .i64 a.ps) := by have := HB.out.act.cell 3; unfold act11C at this; simpa using this
  have a4 : w1.cell? ⟨w.heap.size + 1, 4, none⟩ = some (.slice A a.l.length c) := by have := HB.out.act.cell 4; unfold act11C at this; simpa using this
  have a5 : w1.cell? ⟨w.heap.size + 1, 5, none⟩ = some (.bool a.raw) := by have := HB.out.act.cell 5; unfold act11C at this; simpa using this
  have a6 : w1.cell? ⟨w.heap.size + 1, 6, none⟩ = some (.string a.m) := by have := HB.out.act.cell 6; unfold act11C at this; simpa using this
  go_wp2_with fail
  refine (HNU.out w1 F1.out).mono ?_
  rintro e w2 ⟨C, d, rfl, m⟩
  have HB2 := Lib.hid (HB.out.old m.fresh)
  have F2 : Hid (Fresh w w2) := F1.out.trans m.fresh (fun _ _ h => h)
  have HC2 : Hid (Sl intE w2 C d nl) := m.sl
  have hwz : Hid (w.heap.size + 1 + 1 < w2.heap.size) := HB2.out.res.lt
  clear b0 b1 b2 b3 b4 b5 b6 b7 b8 b9 ba bb a0 a1 a2 a3 a4 a5 a6 m HNU HB F1
  simp only
  have b0 : w2.cell? ⟨w.heap.size, 0, none⟩ = some (.int .i64 x.s) := HB2.out.sf.cell 0
  have b1 : w2.cell? ⟨w.heap.size, 1, none⟩ = some (.int .i64 x.a) := HB2.out.sf.cell 1
  have b2 : w2.cell? ⟨w.heap.size, 2, none⟩ = some (.int .i64 x.ms) := HB2.out.sf.cell 2
  have b3 : w2.cell? ⟨w.heap.size, 3, none⟩ = some (.int .i64 x.ps) := HB2.out.sf.cell 3
  have b4 : w2.cell? ⟨w.heap.size, 4, none⟩ = some (.int .i64 x.pa) := HB2.out.sf.cell 4
  have b5 : w2.cell? ⟨w.heap.size, 5, none⟩ = some (.int .i64 x.units) := HB2.out.sf.cell 5
  have b6 : w2.cell? ⟨w.heap.size, 6, none⟩ = some (.int .i64 x.polls) := HB2.out.sf.cell 6
  have b7 : w2.cell? ⟨w.heap.size, 7, none⟩ = some (.int .i64 (x.most : Int)) := HB2.out.sf.cell 7
  have b8 : w2.cell? ⟨w.heap.size, 8, none⟩ = some (.slice P.W x.wait.length P.cw) := HB2.out.sf.cell 8
  have b9 : w2.cell? ⟨w.heap.size, 9, none⟩ = some (.slice P.K x.kept.length P.ck) := HB2.out.sf.cell 9
  have ba : w2.cell? ⟨w.heap.size, 10, none⟩ = some (.slice P.L x.last.length P.cl) := HB2.out.sf.cell 10
  have bb : w2.cell? ⟨w.heap.size, 11, none⟩ = some (.slice P.G x.again.length P.cg) := HB2.out.sf.cell 11
  have a0 : w2.cell? ⟨w.heap.size + 1, 0, none⟩ = some (.int .i64 4) := by have := HB2.out.act.cell 0; unfold act11C at this; rw [HKD.out] at this; simpa using this
  have a6 : w2.cell? ⟨w.heap.size + 1, 6, none⟩ = some (.string a.m) := by have := HB2.out.act.cell 6; unfold act11C at this; simpa using this
  have hnl : nl.length ≤ 12 := HNB.out.2.2.2.2
  have HNX := Lib.hid (sfrep_any false P D x nr nm np C d nl w2 (HI.out.ins.old F2.out) HI.out.dom (fun k hk => Nat.lt_of_lt_of_le (HDL.out k hk) F2.out.size) HOK.out HC2.out.rd (by omega))
  have hsel : (if false = true then Sf.stat x nr nm np nl else Sf.ustat x nr nm nl) = z := hz
  rw [hsel] at HNX
  have HOY : Hid (Sf.Ok z.1 lo (hi + 4)) := by rw [← hz]; exact (HOK.out.ustat _ _ _).mono (by omega) HH.out
  have HNP : Hid (∀ (W : World) (B5 : Option Addr) (d5 : Nat), SendAt W p F (Sf.prog x) → Rd numE W B5 d5 nl → Calls Tryz.prog 19 #[.pointer (some ⟨p, 0, none⟩), .int .u32 nr, .int .u32 nm, .slice B5 nl.length d5] W (StatPost p F z W)) := fun W B5 d5 hW hr => by
    rw [← hz]
    exact sustat_any p F x lo hi HOK.out nr nm B5 d5 nl W hW hr (by omega) HNB.out.2.1
  clear hz hsel
  obtain ⟨y, n, er⟩ := z
  unfold SfRepPost at HNX
  unfold StatPost at HNP
  simp only at HNX HNP HOY ⊢
  unfold sfV at HNX
  go_wp2_with fail
  refine HNX.out.mono ?_
  rintro e w3 ⟨V, rfl, ho⟩
  obtain ⟨Q, rfl, i3, d3, f3⟩ := ho.open_
  have HB3 := Lib.hid (HB2.out.old f3)
  have F3 : Hid (Fresh w w3) := F2.out.trans f3 (fun _ _ h => h)
  have I3 := Lib.hid i3
  have D3 := Lib.hid d3
  have C3 : Hid (Sl intE w3 C d nl) := HC2.out.touch f3 (fun _ _ h => h)
  have hz3 : Hid (w2.heap.size ≤ w3.heap.size) := f3.size
  clear ho i3 d3 f3 HNX HB2 F2 HC2 b0 b1 b2 b3 b4 b5 b6 b7 b8 b9 ba bb a0 a6
  unfold sfV
  simp only
  go_upto_region 14 with (fail)
  have HB12 : Hid (Blk (w3.alloc (.cells #[.int .i64 y.s, .int .i64 y.a, .int .i64 y.ms, .int .i64 y.ps, .int .i64 y.pa, .int .i64 y.units, .int .i64 y.polls, .int .i64 (y.most : Int), .slice Q.W y.wait.length Q.cw, .slice Q.K y.kept.length Q.ck, .slice Q.L y.last.length Q.cl, .slice Q.G y.again.length Q.cg] 33)) w3.heap.size 33 (sfCells y Q)) := Blk.new w3 _ (sfCells y Q)
  have f4 : Fresh w3 (w3.alloc (.cells #[.int .i64 y.s, .int .i64 y.a, .int .i64 y.ms, .int .i64 y.ps, .int .i64 y.pa, .int .i64 y.units, .int .i64 y.polls, .int .i64 (y.most : Int), .slice Q.W y.wait.length Q.cw, .slice Q.K y.kept.length Q.ck, .slice Q.L y.last.length Q.cl, .slice Q.G y.again.length Q.cg] 33)) := (Touch.refl _ _).alloc _
  have HB4 := Lib.hid (HB3.out.old f4)
  have F4 : Hid (Fresh w (w3.alloc (.cells #[.int .i64 y.s, .int .i64 y.a, .int .i64 y.ms, .int .i64 y.ps, .int .i64 y.pa, .int .i64 y.units, .int .i64 y.polls, .int .i64 (y.most : Int), .slice Q.W y.wait.length Q.cw, .slice Q.K y.kept.length Q.ck, .slice Q.L y.last.length Q.cl, .slice Q.G y.again.length Q.cg] 33))) := F3.out.trans f4 (fun _ _ h => h)
  have I4 := Lib.hid (I3.out.old f4)
  have C4 : Hid (Sl intE (w3.alloc (.cells #[.int .i64 y.s, .int .i64 y.a, .int .i64 y.ms, .int .i64 y.ps, .int .i64 y.pa, .int .i64 y.units, .int .i64 y.polls, .int .i64 (y.most : Int), .slice Q.W y.wait.length Q.cw, .slice Q.K y.kept.length Q.ck, .slice Q.L y.last.length Q.cl, .slice Q.G y.again.length Q.cg] 33)) C d nl) := C3.out.touch f4 (fun _ _ h => h)
  have hz4 : Hid (w3.heap.size < (w3.alloc (.cells #[.int .i64 y.s, .int .i64 y.a, .int .i64 y.ms, .int .i64 y.ps, .int .i64 y.pa, .int .i64 y.units, .int .i64 y.polls, .int .i64 (y.most : Int), .slice Q.W y.wait.length Q.cw, .slice Q.K y.kept.length Q.ck, .slice Q.L y.last.length Q.cl, .slice Q.G y.again.length Q.cg] 33)).heap.size) := HB12.out.lt
  clear f4 HB3 F3 I3 C3
  generalize World.alloc w3 _ = w4 at *
  have a0 : w4.cell? ⟨w.heap.size + 1, 0, none⟩ = some (.int .i64 4) := by have := HB4.out.act.cell 0; unfold act11C at this; rw [HKD.out] at this; simpa using this
  have HO1 : Hid (∀ W, Calls Tryz.prog 9 #[.int .i64 nr] W fun e w' => e = .returned (.int .u32 nr) ∧ w' = W) := fun W => by
    have := sof_any nr W
    rwa [Int.emod_eq_of_lt HNB.out.1.1 HNB.out.1.2] at this
  have HO2 : Hid (∀ W, Calls Tryz.prog 9 #[.int .i64 nm] W fun e w' => e = .returned (.int .u32 nm) ∧ w' = W) := fun W => by
    have := sof_any nm W
    rwa [Int.emod_eq_of_lt HNB.out.2.1.1 HNB.out.2.1.2] at this
  have HO3 : Hid (∀ W, Calls Tryz.prog 9 #[.int .i64 np] W fun e w' => e = .returned (.int .u32 np) ∧ w' = W) := fun W => by
    have := sof_any np W
    rwa [Int.emod_eq_of_lt HNB.out.2.2.1.1 HNB.out.2.2.1.2] at this
  have HOW := Lib.hid (own11_any C d nl w4 C4.out.rd (by omega))
  rw [HNB.out.2.2.2.1] at HOW
  clear C4
  go_wp2_with fail
  refine (HO1.out _).mono ?_
  rintro e w5 ⟨rfl, h5⟩
  have h5 := h5.symm
  subst h5
  simp only
  go_wp2_with fail
  refine (HO2.out _).mono ?_
  rintro e w6 ⟨rfl, h6⟩
  have h6 := h6.symm
  subst h6
  simp only
  go_wp2_with fail
  refine HOW.out.mono ?_
  rintro e w7 ⟨B7, d7, rfl, m7⟩
  have HB7 := Lib.hid (HB4.out.old m7.fresh)
  have F7 : Hid (Fresh w w7) := F4.out.trans m7.fresh (fun _ _ h => h)
  have I7 := Lib.hid (I4.out.old m7.fresh)
  have HB12b := Lib.hid (m7.fresh.blk HB12.out (fun h => h))
  have C7 := Lib.hid m7.sl.rd
  have hz7 : Hid (w4.heap.size ≤ w7.heap.size) := m7.fresh.size
  clear m7 HOW HB4 F4 I4 HB12 a0
  generalize w4.heap.size = z4 at *
  simp only
  go_wp2_with fail
  refine (HNP.out w7 B7 d7 (HI.out.send.old F7.out) C7.out).mono ?_
  rintro e w5 ⟨rfl, s5, t5⟩
  have S5 := Lib.hid s5.within
  have HB5 := Lib.hid (HB7.out.touch t5 (fun k hk => .inl (HLIM.out k hk)))
  have HB12' := Lib.hid (t5.blk HB12b.out (fun hk => by have h1 := HLIM.out _ hk; have h2 := hwz.out; have h3 := hz3.out; omega))
  have I5 := Lib.hid (I7.out.touch D3.out t5 (fun k hk hf => by
    have h1 := HLIM.out k hf
    rcases hk with hk | hk
    · exact HOFF.out k hf hk
    · have h2 := hwz.out; omega))
  have T5 : Hid (Touch F w w5) := (F7.out.mono (fun _ _ h => h.elim)).trans t5 (fun _ _ h => h)
  have hz5 : Hid (w7.heap.size ≤ w5.heap.size) := t5.size
  clear s5 t5 HNP HB7 HB12b I7 F7
  have HX : Hid (∀ W, Touch (· = w.heap.size + 1 + 1) w5 W → StepPost w p F D y lo (hi + 4) (.returned (.tuple #[.agg #[.int .i64 y.s, .int .i64 y.a, .int .i64 y.ms, .int .i64 y.ps, .int .i64 y.pa, .int .i64 y.units, .int .i64 y.polls, .int .i64 (y.most : Int), .slice Q.W y.wait.length Q.cw, .slice Q.K y.kept.length Q.ck, .slice Q.L y.last.length Q.cl, .slice Q.G y.again.length Q.cg], .bool true])) W) := fun W ht => by
    have h1 := hwz.out; have h2 := hz3.out; have h3 := hz4.out; have h4 := hz5.out; have h7 := hz7.out; have h5 := ht.size
    exact HI.out.done (S5.out.away ht (fun k hk hf => by
        have hk : k = w.heap.size + 1 + 1 := hk
        rcases hf with hf | hf
        · have := HLIM.out k hf; omega
        · omega)) (I5.out.touch D3.out ht (fun k hk hk2 => by
        have hk2 : k = w.heap.size + 1 + 1 := hk2
        rcases hk with hk | hk
        · have := HDL.out k hk; omega
        · omega)) D3.out (T5.out.trans ht (fun k hk e => by have e : k = w.heap.size + 1 + 1 := e; omega)) HOY.out (.inr (by omega)) (by omega) (by omega) (by omega) (by omega)
  obtain ⟨b12, hb12⟩ : ∃ b, w3.heap.size = b := ⟨_, rfl⟩
  rw [hb12] at HB12' ⊢
  clear hb12
  have q0 : w5.cell? ⟨b12, 0, none⟩ = some (.int .i64 y.s) := HB12'.out.cell 0
  have q1 : w5.cell? ⟨b12, 1, none⟩ = some (.int .i64 y.a) := HB12'.out.cell 1
  have q2 : w5.cell? ⟨b12, 2, none⟩ = some (.int .i64 y.ms) := HB12'.out.cell 2
  have q3 : w5.cell? ⟨b12, 3, none⟩ = some (.int .i64 y.ps) := HB12'.out.cell 3
  have q4 : w5.cell? ⟨b12, 4, none⟩ = some (.int .i64 y.pa) := HB12'.out.cell 4
  have q5 : w5.cell? ⟨b12, 5, none⟩ = some (.int .i64 y.units) := HB12'.out.cell 5
  have q6 : w5.cell? ⟨b12, 6, none⟩ = some (.int .i64 y.polls) := HB12'.out.cell 6
  have q7 : w5.cell? ⟨b12, 7, none⟩ = some (.int .i64 (y.most : Int)) := HB12'.out.cell 7
  have q8 : w5.cell? ⟨b12, 8, none⟩ = some (.slice Q.W y.wait.length Q.cw) := HB12'.out.cell 8
  have q9 : w5.cell? ⟨b12, 9, none⟩ = some (.slice Q.K y.kept.length Q.ck) := HB12'.out.cell 9
  have qa : w5.cell? ⟨b12, 10, none⟩ = some (.slice Q.L y.last.length Q.cl) := HB12'.out.cell 10
  have qb : w5.cell? ⟨b12, 11, none⟩ = some (.slice Q.G y.again.length Q.cg) := HB12'.out.cell 11
  have r0 : w5.cell? ⟨w.heap.size + 1 + 1, 0, none⟩ = some (.int .i64 0) := HB5.out.res.cell 0
  have r1 : w5.cell? ⟨w.heap.size + 1 + 1, 1, none⟩ = some (.int .i64 0) := HB5.out.res.cell 1
  have r2 : w5.cell? ⟨w.heap.size + 1 + 1, 2, none⟩ = some (.int .i64 0) := HB5.out.res.cell 2
  have r3 : w5.cell? ⟨w.heap.size + 1 + 1, 3, none⟩ = some (.int .i64 0) := HB5.out.res.cell 3
  have r4 : w5.cell? ⟨w.heap.size + 1 + 1, 4, none⟩ = some (.int .i64 0) := HB5.out.res.cell 4
  have r5 : w5.cell? ⟨w.heap.size + 1 + 1, 5, none⟩ = some (.int .i64 0) := HB5.out.res.cell 5
  have r6 : w5.cell? ⟨w.heap.size + 1 + 1, 6, none⟩ = some (.int .i64 0) := HB5.out.res.cell 6
  have r7 : w5.cell? ⟨w.heap.size + 1 + 1, 7, none⟩ = some (.int .i64 0) := HB5.out.res.cell 7
  have r8 : w5.cell? ⟨w.heap.size + 1 + 1, 8, none⟩ = some (.slice none 0 0) := HB5.out.res.cell 8
  have r9 : w5.cell? ⟨w.heap.size + 1 + 1, 9, none⟩ = some (.slice none 0 0) := HB5.out.res.cell 9
  have ra : w5.cell? ⟨w.heap.size + 1 + 1, 10, none⟩ = some (.slice none 0 0) := HB5.out.res.cell 10
  have rb : w5.cell? ⟨w.heap.size + 1 + 1, 11, none⟩ = some (.slice none 0 0) := HB5.out.res.cell 11
  have fz := fun i => HB5.out.res.frozen i
  clear HB12' HB5 I5 S5 T5 D3 HI HOK HOY HLIM HDL HOFF HAM HNB
  simp only
  go_wp2
  exact bodyPost_ret (v := .tuple #[.agg #[.int .i64 y.s, .int .i64 y.a, .int .i64 y.ms, .int .i64 y.ps, .int .i64 y.pa, .int .i64 y.units, .int .i64 y.polls, .int .i64 (y.most : Int), .slice Q.W y.wait.length Q.cw, .slice Q.K y.kept.length Q.ck, .slice Q.L y.last.length Q.cl, .slice Q.G y.again.length Q.cg], .bool true]) (by simp [results, Tryz.results11, go_sem, r0, r1, r2, r3, r4, r5, r6, r7, r8, r9, ra, rb]) rfl (HX.out _ (Touch.st12 (S := (· = w.heap.size + 1 + 1)) (Touch.refl _ _) rfl))
end Go.Proofs.YtajdnllkkekmnaaGreat

namespace Go.Proofs.YtajdnllkkekmnaaGreat
open Go.RowKit

set_option maxHeartbeats 8000000 in
set_option maxRecDepth 8000 in
theorem step11_5 {lo hi : Int} (p : Nat) (F D : Nat → Prop) (P : SfP) (x : Sf.S) (a : Act11) (A : Option Addr) (c : Nat) (w : World) (h : St11 w p F D P x lo hi) (hA : Rd intE w A c a.l) (hAl : a.l.length ≤ 9223372036854775807) (ham : a.m.size ≤ maxLen) (hh : hi + 4 - lo ≤ 4000) (hk : a.kind = 5) {y : Sf.S} (hy : Sf.opn x (Sf.numM x a) = y) :
    Calls Tryz.prog 11 #[.pointer (some ⟨p, 0, none⟩), sfV x P, act11V a A c] w (StepPost w p F D y lo (hi + 4)) := by
  have HI := Lib.hid h
  have HH := Lib.hid hh
  have hab : 0 ≤ x.a ∧ x.a ≤ 100000000 ∧ 0 ≤ x.s ∧ x.s ≤ 100000000 ∧ 0 ≤ x.pa ∧ x.pa ≤ 100000000 := by
    have h1 := h.ok.lo0; have h2 := h.ok.la; have h3 := h.ok.klen; have h4 := h.ok.shi; have h5 := h.ok.hl; have h6 := h.ok.lpa; have h7 := h.ok.pas; have h8 := h.ok.phi
    omega
  have HB : Hid (StBox w (((w.alloc (.cells #[.int .i64 x.s, .int .i64 x.a, .int .i64 x.ms, .int .i64 x.ps, .int .i64 x.pa, .int .i64 x.units, .int .i64 x.polls, .int .i64 (x.most : Int), .slice P.W x.wait.length P.cw, .slice P.K x.kept.length P.ck, .slice P.L x.last.length P.cl, .slice P.G x.again.length P.cg] 33)).alloc (.cells #[.int .i64 a.kind, .int .i64 a.r, .int .i64 a.mr, .int .i64 a.ps, .slice A a.l.length c, .bool a.raw, .string a.m] 38)).alloc (.cells #[.int .i64 0, .int .i64 0, .int .i64 0, .int .i64 0, .int .i64 0, .int .i64 0, .int .i64 0, .int .i64 0, .slice none 0 0, .slice none 0 0, .slice none 0 0, .slice none 0 0] 33)) P x a A c) := StBox.new w P x a A c
  have F1 : Hid (Fresh w (((w.alloc (.cells #[.int .i64 x.s, .int .i64 x.a, .int .i64 x.ms, .int .i64 x.ps, .int .i64 x.pa, .int .i64 x.units, .int .i64 x.polls, .int .i64 (x.most : Int), .slice P.W x.wait.length P.cw, .slice P.K x.kept.length P.ck, .slice P.L x.last.length P.cl, .slice P.G x.again.length P.cg] 33)).alloc (.cells #[.int .i64 a.kind, .int .i64 a.r, .int .i64 a.mr, .int .i64 a.ps, .slice A a.l.length c, .bool a.raw, .string a.m] 38)).alloc (.cells #[.int .i64 0, .int .i64 0, .int .i64 0, .int .i64 0, .int .i64 0, .int .i64 0, .int .i64 0, .int .i64 0, .slice none 0 0, .slice none 0 0, .slice none 0 0, .slice none 0 0] 33))) := (((Touch.refl _ _).alloc _).alloc _).alloc _
  have HNU : Hid (∀ W, Fresh w W → Calls Tryz.prog 15 #[act11V a A c, sfV x P] W fun e w' => ∃ C d, e = .returned (.tuple #[.int .i64 (Sf.numR x a), .int .i64 (Sf.numM x a), .int .i64 (Sf.numP x a), .slice C (Sf.numL x a).length d]) ∧ Mine intE W w' C d (Sf.numL x a)) := fun W hf =>
    nums11_any a A c x P W (hA.touch hf (fun _ _ _ h => h)) hAl hab
  have HNB : Hid ((0 ≤ Sf.numR x a ∧ Sf.numR x a < 16777216) ∧ (0 ≤ Sf.numM x a ∧ Sf.numM x a < 16777216) ∧ (0 ≤ Sf.numP x a ∧ Sf.numP x a < 16777216) ∧ (Sf.numL x a).map (fun n => n % 16777216) = Sf.numL x a ∧ (Sf.numL x a).length ≤ 12) := ⟨near11_bd _ _ _, near11_bd _ _ _, near11_bd _ _ _, numL_low x a, numL_len x a⟩
  have HOK := Lib.hid h.ok
  have HLIM := Lib.hid h.lim
  have HDL := Lib.hid h.dlim
  have HOFF := Lib.hid h.off
  have HAM := Lib.hid ham
  clear h hh hA ham
  unfold sfV act11V at HNU
  unfold sfV act11V
  have HKD := Lib.hid hk
  rw [hk] at HB F1 HNU ⊢
  clear hk
  generalize Sf.numR x a = nr at *
  generalize Sf.numM x a = nm at *
  generalize Sf.numP x a = np at *
  generalize Sf.numL x a = nl at *
  go_enter Tryz.func11, Tryz.ntmps11
  go_upto_region 1 with (fail)
  generalize World.alloc (World.alloc (World.alloc w _) _) _ = w1 at *
  have b0 : w1.cell? ⟨w.heap.size, 0, none⟩ = some (.int .i64 x.s) := HB.out.sf.cell 0
  have b1 : w1.cell? ⟨w.heap.size, 1, none⟩ = some (.int .i64 x.a) := HB.out.sf.cell 1
  have b2 : w1.cell? ⟨w.heap.size, 2, none⟩ = some (.int .i64 x.ms) := HB.out.sf.cell 2
  have b3 : w1.cell? ⟨w.heap.size, 3, none⟩ = some (.int .i64 x.ps) := HB.out.sf.cell 3
  have b4 : w1.cell? ⟨w.heap.size, 4, none⟩ = some (.int .i64 x.pa) := HB.out.sf.cell 4
  have b5 : w1.cell? ⟨w.heap.size, 5, none⟩ = some (.int .i64 x.units) := HB.out.sf.cell 5
  have b6 : w1.cell? ⟨w.heap.size, 6, none⟩ = some (.int .i64 x.polls) := HB.out.sf.cell 6
  have b7 : w1.cell? ⟨w.heap.size, 7, none⟩ = some (.int .i64 (x.most : Int)) := HB.out.sf.cell 7
  have b8 : w1.cell? ⟨w.heap.size, 8, none⟩ = some (.slice P.W x.wait.length P.cw) := HB.out.sf.cell 8
  have b9 : w1.cell? ⟨w.heap.size, 9, none⟩ = some (.slice P.K x.kept.length P.ck) := HB.out.sf.cell 9
  have ba : w1.cell? ⟨w.heap.size, 10, none⟩ = some (.slice P.L x.last.length P.cl) := HB.out.sf.cell 10
  have bb : w1.cell? ⟨w.heap.size, 11, none⟩ = some (.slice P.G x.again.length P.cg) := HB.out.sf.cell 11
  have a0 : w1.cell? ⟨w.heap.size + 1, 0, none⟩ = some (.int .i64 5) := by have := HB.out.act.cell 0; unfold act11C at this; rw [HKD.out] at this; simpa using this
  have a1 : w1.cell? ⟨w.heap.size + 1, 1, none⟩ = some (.int .i64 a.r) := by have := HB.out.act.cell 1; unfold act11C at this; simpa using this
  have a2 : w1.cell? ⟨w.heap.size + 1, 2, none⟩ = some (.int .i64 a.mr) := by have := HB.out.act.cell 2; unfold act11C at this; simpa using this
  have a3 : w1.cell? ⟨w.heap.size + 1, 3, none⟩ = some (.int .i64 a.ps) := by have := HB.out.act.cell 3; unfold act11C at this; simpa using this
  have a4 : w1.cell? ⟨w.heap.size + 1, 4, none⟩ = some (.slice A a.l.length c) := by have := HB.out.act.cell 4; unfold act11C at this; simpa using this
  have a5 : w1.cell? ⟨w.heap.size + 1, 5, none⟩ = some (.bool a.raw) := by have := HB.out.act.cell 5; unfold act11C at this; simpa using this
  have a6 : w1.cell? ⟨w.heap.size + 1, 6, none⟩ = some (.string a.m) := by have := HB.out.act.cell 6; unfold act11C at this; simpa using this
  go_wp2_with fail
  refine (HNU.out w1 F1.out).mono ?_
  rintro e w2 ⟨C, d, rfl, m⟩
  have HB2 := Lib.hid (HB.out.old m.fresh)
  have F2 : Hid (Fresh w w2) := F1.out.trans m.fresh (fun _ _ h => h)
  have HC2 : Hid (Sl intE w2 C d nl) := m.sl
  have hwz : Hid (w.heap.size + 1 + 1 < w2.heap.size) := HB2.out.res.lt
  clear b0 b1 b2 b3 b4 b5 b6 b7 b8 b9 ba bb a0 a1 a2 a3 a4 a5 a6 m HNU HB F1
  simp only
  have b0 : w2.cell? ⟨w.heap.size, 0, none⟩ = some (.int .i64 x.s) := HB2.out.sf.cell 0
  have b1 : w2.cell? ⟨w.heap.size, 1, none⟩ = some (.int .i64 x.a) := HB2.out.sf.cell 1
  have b2 : w2.cell? ⟨w.heap.size, 2, none⟩ = some (.int .i64 x.ms) := HB2.out.sf.cell 2
  have b3 : w2.cell? ⟨w.heap.size, 3, none⟩ = some (.int .i64 x.ps) := HB2.out.sf.cell 3
  have b4 : w2.cell? ⟨w.heap.size, 4, none⟩ = some (.int .i64 x.pa) := HB2.out.sf.cell 4
  have b5 : w2.cell? ⟨w.heap.size, 5, none⟩ = some (.int .i64 x.units) := HB2.out.sf.cell 5
  have b6 : w2.cell? ⟨w.heap.size, 6, none⟩ = some (.int .i64 x.polls) := HB2.out.sf.cell 6
  have b7 : w2.cell? ⟨w.heap.size, 7, none⟩ = some (.int .i64 (x.most : Int)) := HB2.out.sf.cell 7
  have b8 : w2.cell? ⟨w.heap.size, 8, none⟩ = some (.slice P.W x.wait.length P.cw) := HB2.out.sf.cell 8
  have b9 : w2.cell? ⟨w.heap.size, 9, none⟩ = some (.slice P.K x.kept.length P.ck) := HB2.out.sf.cell 9
  have ba : w2.cell? ⟨w.heap.size, 10, none⟩ = some (.slice P.L x.last.length P.cl) := HB2.out.sf.cell 10
  have bb : w2.cell? ⟨w.heap.size, 11, none⟩ = some (.slice P.G x.again.length P.cg) := HB2.out.sf.cell 11
  have a0 : w2.cell? ⟨w.heap.size + 1, 0, none⟩ = some (.int .i64 5) := by have := HB2.out.act.cell 0; unfold act11C at this; rw [HKD.out] at this; simpa using this
  have a6 : w2.cell? ⟨w.heap.size + 1, 6, none⟩ = some (.string a.m) := by have := HB2.out.act.cell 6; unfold act11C at this; simpa using this
  have HOY : Hid (Sf.Ok y lo (hi + 4)) := by rw [← hy]; exact (HOK.out.opn _).mono (by omega) HH.out
  have HO2 : Hid (∀ W, Calls Tryz.prog 9 #[.int .i64 nm] W fun e w' => e = .returned (.int .u32 nm) ∧ w' = W) := fun W => by
    have := sof_any nm W
    rwa [Int.emod_eq_of_lt HNB.out.2.1.1 HNB.out.2.1.2] at this
  have HNP := Lib.hid (sopn_any p F (Sf.prog x) nm w2 (HI.out.send.old F2.out))
  have e3 : Sd.opn (Sf.prog x) nm = Sf.prog (Sf.opn x nm) := by
    have := HOK.out.prog_opn nm
    rwa [Int.emod_eq_of_lt HNB.out.2.1.1 HNB.out.2.1.2] at this
  rw [e3, hy] at HNP
  have HNX := Lib.hid (fun W => sfopn_any P x nm W HOK.out)
  rw [hy] at HNX
  unfold sfV at HNX
  have hkp : y.wait = x.wait ∧ y.kept = x.kept ∧ y.last = x.last ∧ y.again = x.again := by rw [← hy]; unfold Sf.opn; split <;> exact ⟨rfl, rfl, rfl, rfl⟩
  have HKP := Lib.hid hkp
  clear e3 hy hkp
  go_wp2_with fail
  refine (HO2.out _).mono ?_
  rintro e w3 ⟨rfl, h3⟩
  subst h3
  simp only
  go_wp2_with fail
  refine HNP.out.mono ?_
  rintro e w4 ⟨rfl, s4, t4⟩
  have HB4 := Lib.hid (HB2.out.touch t4 (fun k hk => .inl (HLIM.out k hk)))
  have S4 := Lib.hid s4
  have I4 : Hid (SfIn w4 P x) := (HI.out.ins.old F2.out).touch HI.out.dom t4 (fun k hk hf => HOFF.out k hf hk)
  have T4 : Hid (Touch F w w4) := (F2.out.mono (fun _ _ h => h.elim)).trans t4 (fun _ _ h => h)
  clear s4 t4 HNP HB2 b0 b1 b2 b3 b4 b5 b6 b7 b8 b9 ba bb a0 a6 F2
  simp only
  have b0 : w4.cell? ⟨w.heap.size, 0, none⟩ = some (.int .i64 x.s) := HB4.out.sf.cell 0
  have b1 : w4.cell? ⟨w.heap.size, 1, none⟩ = some (.int .i64 x.a) := HB4.out.sf.cell 1
  have b2 : w4.cell? ⟨w.heap.size, 2, none⟩ = some (.int .i64 x.ms) := HB4.out.sf.cell 2
  have b3 : w4.cell? ⟨w.heap.size, 3, none⟩ = some (.int .i64 x.ps) := HB4.out.sf.cell 3
  have b4 : w4.cell? ⟨w.heap.size, 4, none⟩ = some (.int .i64 x.pa) := HB4.out.sf.cell 4
  have b5 : w4.cell? ⟨w.heap.size, 5, none⟩ = some (.int .i64 x.units) := HB4.out.sf.cell 5
  have b6 : w4.cell? ⟨w.heap.size, 6, none⟩ = some (.int .i64 x.polls) := HB4.out.sf.cell 6
  have b7 : w4.cell? ⟨w.heap.size, 7, none⟩ = some (.int .i64 (x.most : Int)) := HB4.out.sf.cell 7
  have b8 : w4.cell? ⟨w.heap.size, 8, none⟩ = some (.slice P.W x.wait.length P.cw) := HB4.out.sf.cell 8
  have b9 : w4.cell? ⟨w.heap.size, 9, none⟩ = some (.slice P.K x.kept.length P.ck) := HB4.out.sf.cell 9
  have ba : w4.cell? ⟨w.heap.size, 10, none⟩ = some (.slice P.L x.last.length P.cl) := HB4.out.sf.cell 10
  have bb : w4.cell? ⟨w.heap.size, 11, none⟩ = some (.slice P.G x.again.length P.cg) := HB4.out.sf.cell 11
  go_wp2_with fail
  refine (HNX.out _).mono ?_
  rintro e w5 ⟨rfl, f5⟩
  have HB5 := Lib.hid (HB4.out.old f5)
  have S5 : Hid (SendAt w5 p (Within F w.heap.size w.heap.size) (Sf.prog y)) := (S4.out.old f5).mono (fun _ h => .inl h)
  have I5 : Hid (SfIn w5 P y) := by
    have h1 := I4.out.old f5
    obtain ⟨k1, k2, k3, k4⟩ := HKP.out
    exact ⟨k1 ▸ h1.wait, k2 ▸ h1.kept, k3 ▸ h1.last, k4 ▸ h1.again⟩
  have D5 : Hid (SfD P (Within D w.heap.size w.heap.size)) := HI.out.dom.mono (fun _ h => .inl h)
  have T5 : Hid (Touch F w w5) := T4.out.trans f5 (fun _ _ h => h.elim)
  have hw5 : Hid (w.heap.size ≤ w5.heap.size) := T5.out.size
  clear f5 HB4 S4 I4 T4 HNX b0 b1 b2 b3 b4 b5 b6 b7 b8 b9 ba bb
  have HX : Hid (∀ W, Touch (· = w.heap.size + 1 + 1) w5 W → StepPost w p F D y lo (hi + 4) (.returned (.tuple #[.agg #[.int .i64 y.s, .int .i64 y.a, .int .i64 y.ms, .int .i64 y.ps, .int .i64 y.pa, .int .i64 y.units, .int .i64 y.polls, .int .i64 (y.most : Int), .slice P.W y.wait.length P.cw, .slice P.K y.kept.length P.ck, .slice P.L y.last.length P.cl, .slice P.G y.again.length P.cg], .bool true])) W) := fun W ht => by
    have h1 := hw5.out; have h5 := ht.size
    exact HI.out.done (S5.out.away ht (fun k hk hf => by
        have hk : k = w.heap.size + 1 + 1 := hk
        rcases hf with hf | hf
        · have := HLIM.out k hf; omega
        · omega)) (I5.out.touch D5.out ht (fun k hk hk2 => by
        have hk2 : k = w.heap.size + 1 + 1 := hk2
        rcases hk with hk | hk
        · have := HDL.out k hk; omega
        · omega)) D5.out (T5.out.trans ht (fun k hk e => by have e : k = w.heap.size + 1 + 1 := e; omega)) HOY.out (.inl (Nat.le_refl _)) (Nat.le_refl _) (Nat.le_refl _) (by omega) (by omega)
  have r0 : w5.cell? ⟨w.heap.size + 1 + 1, 0, none⟩ = some (.int .i64 0) := HB5.out.res.cell 0
  have r1 : w5.cell? ⟨w.heap.size + 1 + 1, 1, none⟩ = some (.int .i64 0) := HB5.out.res.cell 1
  have r2 : w5.cell? ⟨w.heap.size + 1 + 1, 2, none⟩ = some (.int .i64 0) := HB5.out.res.cell 2
  have r3 : w5.cell? ⟨w.heap.size + 1 + 1, 3, none⟩ = some (.int .i64 0) := HB5.out.res.cell 3
  have r4 : w5.cell? ⟨w.heap.size + 1 + 1, 4, none⟩ = some (.int .i64 0) := HB5.out.res.cell 4
  have r5 : w5.cell? ⟨w.heap.size + 1 + 1, 5, none⟩ = some (.int .i64 0) := HB5.out.res.cell 5
  have r6 : w5.cell? ⟨w.heap.size + 1 + 1, 6, none⟩ = some (.int .i64 0) := HB5.out.res.cell 6
  have r7 : w5.cell? ⟨w.heap.size + 1 + 1, 7, none⟩ = some (.int .i64 0) := HB5.out.res.cell 7
  have r8 : w5.cell? ⟨w.heap.size + 1 + 1, 8, none⟩ = some (.slice none 0 0) := HB5.out.res.cell 8
  have r9 : w5.cell? ⟨w.heap.size + 1 + 1, 9, none⟩ = some (.slice none 0 0) := HB5.out.res.cell 9
  have ra : w5.cell? ⟨w.heap.size + 1 + 1, 10, none⟩ = some (.slice none 0 0) := HB5.out.res.cell 10
  have rb : w5.cell? ⟨w.heap.size + 1 + 1, 11, none⟩ = some (.slice none 0 0) := HB5.out.res.cell 11
  have fz := fun i => HB5.out.res.frozen i
  clear HB5 I5 S5 T5 D5 HI HOK HOY HLIM HDL HOFF HAM HNB HKP
  simp only
  go_wp2
  exact bodyPost_ret (v := .tuple #[.agg #[.int .i64 y.s, .int .i64 y.a, .int .i64 y.ms, .int .i64 y.ps, .int .i64 y.pa, .int .i64 y.units, .int .i64 y.polls, .int .i64 (y.most : Int), .slice P.W y.wait.length P.cw, .slice P.K y.kept.length P.ck, .slice P.L y.last.length P.cl, .slice P.G y.again.length P.cg], .bool true]) (by simp [results, Tryz.results11, go_sem, r0, r1, r2, r3, r4, r5, r6, r7, r8, r9, ra, rb]) rfl (HX.out _ (Touch.st12 (S := (· = w.heap.size + 1 + 1)) (Touch.refl _ _) rfl))
end Go.Proofs.YtajdnllkkekmnaaGreat

namespace Go.Proofs.YtajdnllkkekmnaaGreat
open Go.RowKit

set_option maxHeartbeats 8000000 in
set_option maxRecDepth 8000 in
theorem step11_6 {lo hi : Int} (p : Nat) (F D : Nat → Prop) (P : SfP) (x : Sf.S) (a : Act11) (A : Option Addr) (c : Nat) (w : World) (h : St11 w p F D P x lo hi) (hA : Rd intE w A c a.l) (hAl : a.l.length ≤ 9223372036854775807) (ham : a.m.size ≤ maxLen) (hh : hi + 4 - lo ≤ 4000) (hk : a.kind = 6) :
    Calls Tryz.prog 11 #[.pointer (some ⟨p, 0, none⟩), sfV x P, act11V a A c] w (StepPost w p F D x lo (hi + 4)) := by
  have HI := Lib.hid h
  have HH := Lib.hid hh
  have hab : 0 ≤ x.a ∧ x.a ≤ 100000000 ∧ 0 ≤ x.s ∧ x.s ≤ 100000000 ∧ 0 ≤ x.pa ∧ x.pa ≤ 100000000 := by
    have h1 := h.ok.lo0; have h2 := h.ok.la; have h3 := h.ok.klen; have h4 := h.ok.shi; have h5 := h.ok.hl; have h6 := h.ok.lpa; have h7 := h.ok.pas; have h8 := h.ok.phi
    omega
  have HB : Hid (StBox w (((w.alloc (.cells #[.int .i64 x.s, .int .i64 x.a, .int .i64 x.ms, .int .i64 x.ps, .int .i64 x.pa, .int .i64 x.units, .int .i64 x.polls, .int .i64 (x.most : Int), .slice P.W x.wait.length P.cw, .slice P.K x.kept.length P.ck, .slice P.L x.last.length P.cl, .slice P.G x.again.length P.cg] 33)).alloc (.cells #[.int .i64 a.kind, .int .i64 a.r, .int .i64 a.mr, .int .i64 a.ps, .slice A a.l.length c, .bool a.raw, .string a.m] 38)).alloc (.cells #[.int .i64 0, .int .i64 0, .int .i64 0, .int .i64 0, .int .i64 0, .int .i64 0, .int .i64 0, .int .i64 0, .slice none 0 0, .slice none 0 0, .slice none 0 0, .slice none 0 0] 33)) P x a A c) := StBox.new w P x a A c
  have F1 : Hid (Fresh w (((w.alloc (.cells #[.int .i64 x.s, .int .i64 x.a, .int .i64 x.ms, .int .i64 x.ps, .int .i64 x.pa, .int .i64 x.units, .int .i64 x.polls, .int .i64 (x.most : Int), .slice P.W x.wait.length P.cw, .slice P.K x.kept.length P.ck, .slice P.L x.last.length P.cl, .slice P.G x.again.length P.cg] 33)).alloc (.cells #[.int .i64 a.kind, .int .i64 a.r, .int .i64 a.mr, .int .i64 a.ps, .slice A a.l.length c, .bool a.raw, .string a.m] 38)).alloc (.cells #[.int .i64 0, .int .i64 0, .int .i64 0, .int .i64 0, .int .i64 0, .int .i64 0, .int .i64 0, .int .i64 0, .slice none 0 0, .slice none 0 0, .slice none 0 0, .slice none 0 0] 33))) := (((Touch.refl _ _).alloc _).alloc _).alloc _
  have HNU : Hid (∀ W, Fresh w W → Calls Tryz.prog 15 #[act11V a A c, sfV x P] W fun e w' => ∃ C d, e = .returned (.tuple #[.int .i64 (Sf.numR x a), .int .i64 (Sf.numM x a), .int .i64 (Sf.numP x a), .slice C (Sf.numL x a).length d]) ∧ Mine intE W w' C d (Sf.numL x a)) := fun W hf =>
    nums11_any a A c x P W (hA.touch hf (fun _ _ _ h => h)) hAl hab
  have HNB : Hid ((0 ≤ Sf.numR x a ∧ Sf.numR x a < 16777216) ∧ (0 ≤ Sf.numM x a ∧ Sf.numM x a < 16777216) ∧ (0 ≤ Sf.numP x a ∧ Sf.numP x a < 16777216) ∧ (Sf.numL x a).map (fun n => n % 16777216) = Sf.numL x a ∧ (Sf.numL x a).length ≤ 12) := ⟨near11_bd _ _ _, near11_bd _ _ _, near11_bd _ _ _, numL_low x a, numL_len x a⟩
  have HOK := Lib.hid h.ok
  have HLIM := Lib.hid h.lim
  have HDL := Lib.hid h.dlim
  have HOFF := Lib.hid h.off
  have HAM := Lib.hid ham
  clear h hh hA ham
  unfold sfV act11V at HNU
  unfold sfV act11V
  have HKD := Lib.hid hk
  rw [hk] at HB F1 HNU ⊢
  clear hk
  generalize Sf.numR x a = nr at *
  generalize Sf.numM x a = nm at *
  generalize Sf.numP x a = np at *
  generalize Sf.numL x a = nl at *
  go_enter Tryz.func11, Tryz.ntmps11
  go_upto_region 1 with (fail)
  generalize World.alloc (World.alloc (World.alloc w _) _) _ = w1 at *
  have b0 : w1.cell? ⟨w.heap.size, 0, none⟩ = some (.int .i64 x.s) := HB.out.sf.cell 0
  have b1 : w1.cell? ⟨w.heap.size, 1, none⟩ = some (.int .i64 x.a) := HB.out.sf.cell 1
  have b2 : w1.cell? ⟨w.heap.size, 2, none⟩ = some (.int .i64 x.ms) := HB.out.sf.cell 2
  have b3 : w1.cell? ⟨w.heap.size, 3, none⟩ = some (.int .i64 x.ps) := HB.out.sf.cell 3
  have b4 : w1.cell? ⟨w.heap.size, 4, none⟩ = some (.int .i64 x.pa) := HB.out.sf.cell 4
  have b5 : w1.cell? ⟨w.heap.size, 5, none⟩ = some (.int .i64 x.units) := HB.out.sf.cell 5
  have b6 : w1.cell? ⟨w.heap.size, 6, none⟩ = some (.int .i64 x.polls) := HB.out.sf.cell 6
  have b7 : w1.cell? ⟨w.heap.size, 7, none⟩ = some (.int .i64 (x.most : Int)) := HB.out.sf.cell 7
  have b8 : w1.cell? ⟨w.heap.size, 8, none⟩ = some (.slice P.W x.wait.length P.cw) := HB.out.sf.cell 8
  have b9 : w1.cell? ⟨w.heap.size, 9, none⟩ = some (.slice P.K x.kept.length P.ck) := HB.out.sf.cell 9
  have ba : w1.cell? ⟨w.heap.size, 10, none⟩ = some (.slice P.L x.last.length P.cl) := HB.out.sf.cell 10
  have bb : w1.cell? ⟨w.heap.size, 11, none⟩ = some (.slice P.G x.again.length P.cg) := HB.out.sf.cell 11
  have a0 : w1.cell? ⟨w.heap.size + 1, 0, none⟩ = some (.int .i64 6) := by have := HB.out.act.cell 0; unfold act11C at this; rw [HKD.out] at this; simpa using this
  have a1 : w1.cell? ⟨w.heap.size + 1, 1, none⟩ = some (.int .i64 a.r) := by have := HB.out.act.cell 1; unfold act11C at this; simpa using this
  have a2 : w1.cell? ⟨w.heap.size + 1, 2, none⟩ = some (.int .i64 a.mr) := by have := HB.out.act.cell 2; unfold act11C at this; simpa using this
  have a3 : w1.cell? ⟨w.heap.size + 1, 3, none⟩ = some (.int .i64 a.ps) := by have := HB.out.act.cell 3; unfold act11C at this; simpa using this
  have a4 : w1.cell? ⟨w.heap.size + 1, 4, none⟩ = some (.slice A a.l.length c) := by have := HB.out.act.cell 4; unfold act11C at this; simpa using this
  have a5 : w1.cell? ⟨w.heap.size + 1, 5, none⟩ = some (.bool a.raw) := by have := HB.out.act.cell 5; unfold act11C at this; simpa using this
  have a6 : w1.cell? ⟨w.heap.size + 1, 6, none⟩ = some (.string a.m) := by have := HB.out.act.cell 6; unfold act11C at this; simpa using this
  go_wp2_with fail
  refine (HNU.out w1 F1.out).mono ?_
  rintro e w2 ⟨C, d, rfl, m⟩
  have HB2 := Lib.hid (HB.out.old m.fresh)
  have F2 : Hid (Fresh w w2) := F1.out.trans m.fresh (fun _ _ h => h)
  have HC2 : Hid (Sl intE w2 C d nl) := m.sl
  have hwz : Hid (w.heap.size + 1 + 1 < w2.heap.size) := HB2.out.res.lt
  clear b0 b1 b2 b3 b4 b5 b6 b7 b8 b9 ba bb a0 a1 a2 a3 a4 a5 a6 m HNU HB F1
  simp only
  have b0 : w2.cell? ⟨w.heap.size, 0, none⟩ = some (.int .i64 x.s) := HB2.out.sf.cell 0
  have b1 : w2.cell? ⟨w.heap.size, 1, none⟩ = some (.int .i64 x.a) := HB2.out.sf.cell 1
  have b2 : w2.cell? ⟨w.heap.size, 2, none⟩ = some (.int .i64 x.ms) := HB2.out.sf.cell 2
  have b3 : w2.cell? ⟨w.heap.size, 3, none⟩ = some (.int .i64 x.ps) := HB2.out.sf.cell 3
  have b4 : w2.cell? ⟨w.heap.size, 4, none⟩ = some (.int .i64 x.pa) := HB2.out.sf.cell 4
  have b5 : w2.cell? ⟨w.heap.size, 5, none⟩ = some (.int .i64 x.units) := HB2.out.sf.cell 5
  have b6 : w2.cell? ⟨w.heap.size, 6, none⟩ = some (.int .i64 x.polls) := HB2.out.sf.cell 6
  have b7 : w2.cell? ⟨w.heap.size, 7, none⟩ = some (.int .i64 (x.most : Int)) := HB2.out.sf.cell 7
  have b8 : w2.cell? ⟨w.heap.size, 8, none⟩ = some (.slice P.W x.wait.length P.cw) := HB2.out.sf.cell 8
  have b9 : w2.cell? ⟨w.heap.size, 9, none⟩ = some (.slice P.K x.kept.length P.ck) := HB2.out.sf.cell 9
  have ba : w2.cell? ⟨w.heap.size, 10, none⟩ = some (.slice P.L x.last.length P.cl) := HB2.out.sf.cell 10
  have bb : w2.cell? ⟨w.heap.size, 11, none⟩ = some (.slice P.G x.again.length P.cg) := HB2.out.sf.cell 11
  have a0 : w2.cell? ⟨w.heap.size + 1, 0, none⟩ = some (.int .i64 6) := by have := HB2.out.act.cell 0; unfold act11C at this; rw [HKD.out] at this; simpa using this
  have a6 : w2.cell? ⟨w.heap.size + 1, 6, none⟩ = some (.string a.m) := by have := HB2.out.act.cell 6; unfold act11C at this; simpa using this
  have hnl : nl.length ≤ 12 := HNB.out.2.2.2.2
  have hagl : (Sf.prog x).again.length ≤ 16777216 := by show (Sf.pa x.again).length ≤ _; have := HOK.out.again_len; have := HOK.out.kl; simp [Sf.pa]; omega
  have HOY : Hid (Sf.Ok x lo (hi + 4)) := HOK.out.mono (by omega) HH.out
  have HO1 : Hid (∀ W, Calls Tryz.prog 9 #[.int .i64 nr] W fun e w' => e = .returned (.int .u32 nr) ∧ w' = W) := fun W => by
    have := sof_any nr W
    rwa [Int.emod_eq_of_lt HNB.out.1.1 HNB.out.1.2] at this
  have HO2 : Hid (∀ W, Calls Tryz.prog 9 #[.int .i64 nm] W fun e w' => e = .returned (.int .u32 nm) ∧ w' = W) := fun W => by
    have := sof_any nm W
    rwa [Int.emod_eq_of_lt HNB.out.2.1.1 HNB.out.2.1.2] at this
  have HCL := Lib.hid (sclone_any p F (Sf.prog x) w2 (HI.out.send.old F2.out) hagl)
  clear hagl
  go_wp2_with fail
  refine HCL.out.mono ?_
  rintro e w3 ⟨p2, G, rfl, s3, f3, g3⟩
  have S3 := Lib.hid s3
  have G3 := Lib.hid g3
  have HB3 := Lib.hid (HB2.out.old f3)
  have T3 : Hid (Touch (fun k => w2.heap.size ≤ k) w2 w3) := f3.mono (fun _ _ h => h.elim)
  have HIS := Lib.hid (is11_any p2 G P x lo hi HOK.out w3 s3 ((HI.out.ins.old F2.out).old f3))
  unfold sfV at HIS
  clear s3 f3 g3 HCL b0 b1 b2 b3 b4 b5 b6 b7 b8 b9 ba bb a0 a6
  simp only
  have b0 : w3.cell? ⟨w.heap.size, 0, none⟩ = some (.int .i64 x.s) := HB3.out.sf.cell 0
  have b1 : w3.cell? ⟨w.heap.size, 1, none⟩ = some (.int .i64 x.a) := HB3.out.sf.cell 1
  have b2 : w3.cell? ⟨w.heap.size, 2, none⟩ = some (.int .i64 x.ms) := HB3.out.sf.cell 2
  have b3 : w3.cell? ⟨w.heap.size, 3, none⟩ = some (.int .i64 x.ps) := HB3.out.sf.cell 3
  have b4 : w3.cell? ⟨w.heap.size, 4, none⟩ = some (.int .i64 x.pa) := HB3.out.sf.cell 4
  have b5 : w3.cell? ⟨w.heap.size, 5, none⟩ = some (.int .i64 x.units) := HB3.out.sf.cell 5
  have b6 : w3.cell? ⟨w.heap.size, 6, none⟩ = some (.int .i64 x.polls) := HB3.out.sf.cell 6
  have b7 : w3.cell? ⟨w.heap.size, 7, none⟩ = some (.int .i64 (x.most : Int)) := HB3.out.sf.cell 7
  have b8 : w3.cell? ⟨w.heap.size, 8, none⟩ = some (.slice P.W x.wait.length P.cw) := HB3.out.sf.cell 8
  have b9 : w3.cell? ⟨w.heap.size, 9, none⟩ = some (.slice P.K x.kept.length P.ck) := HB3.out.sf.cell 9
  have ba : w3.cell? ⟨w.heap.size, 10, none⟩ = some (.slice P.L x.last.length P.cl) := HB3.out.sf.cell 10
  have bb : w3.cell? ⟨w.heap.size, 11, none⟩ = some (.slice P.G x.again.length P.cg) := HB3.out.sf.cell 11
  go_wp2_with fail
  refine HIS.out.mono ?_
  rintro e w4 ⟨rfl, f4⟩
  have S4 := Lib.hid (S3.out.old f4)
  have T4 : Hid (Touch (fun k => w2.heap.size ≤ k) w2 w4) := T3.out.trans f4 (fun _ _ h => h.elim)
  clear b0 b1 b2 b3 b4 b5 b6 b7 b8 b9 ba bb f4 HIS S3 T3 HB3
  simp only
  go_wp2_with fail
  refine (sput_any p2 G (Sf.prog x) _ w4 S4.out).mono ?_
  rintro e w5 ⟨rfl, s5, t5⟩
  rw [Sf.prog_put] at s5
  have OK5 := Lib.hid (HOK.out.put { data := #[111, 116, 104, 101, 114] })
  have S5 := Lib.hid s5
  have T5 : Hid (Touch (fun k => w2.heap.size ≤ k) w2 w5) := T4.out.trans t5 (fun k hk hg => G3.out k hg)
  have G5 : Hid (∀ k, Grown G w4 k → w2.heap.size ≤ k) := fun k hk => hk.elim (G3.out k) (fun h => Nat.le_trans T4.out.size h)
  clear s5 t5 S4 T4 G3
  generalize Sf.put x _ = y5 at *
  generalize Grown G w4 = G5s at *
  generalize (if (Sf.prog x).q.length < (Sf.prog x).most then (0 : Int) else 7) = zz at *
  simp only
  go_wp2_with fail
  refine (spoll_any p2 G5s (Sf.prog y5) w5 S5.out).mono ?_
  rintro e w6 ⟨rfl, s6, t6⟩
  rw [Sf.prog_poll] at s6
  have OK6 := Lib.hid (OK5.out.poll (by have := HH.out; omega))
  have S6 := Lib.hid s6
  have T6 : Hid (Touch (fun k => w2.heap.size ≤ k) w2 w6) := T5.out.trans t6 (fun k hk hg => G5.out k hg)
  clear s6 t6 S5 T5 OK5
  generalize Sf.poll y5 = y6 at *
  simp only
  go_wp2_with fail
  refine (snextP_any p2 G5s y6 lo (hi + 1) OK6.out w6 S6.out).mono ?_
  rintro e w7 ⟨rfl, s7, t7⟩
  have OK7 := Lib.hid (OK6.out.next (by have := HH.out; omega))
  have S7 := Lib.hid s7
  have T7 : Hid (Touch (fun k => w2.heap.size ≤ k) w2 w7) := T6.out.trans t7 (fun k hk hg => G5.out k hg)
  have G7 : Hid (∀ k, Grown G5s w6 k → w2.heap.size ≤ k) := fun k hk => hk.elim (G5.out k) (fun h => Nat.le_trans T6.out.size h)
  clear s7 t7 S6 T6 OK6 G5
  generalize Sf.next y6 = z7 at *
  generalize Grown G5s w6 = G7s at *
  obtain ⟨y7, n7, v7, fr7, ok7⟩ := z7
  simp only at OK7 S7 ⊢
  go_wp2_with fail
  refine (HO1.out _).mono ?_
  rintro e w8 ⟨rfl, h8⟩
  have h8 := h8.symm
  subst h8
  simp only
  go_wp2_with fail
  refine (HO2.out _).mono ?_
  rintro e w9 ⟨rfl, h9⟩
  have h9 := h9.symm
  subst h9
  simp only
  have HOW := Lib.hid (own11_any C d nl w7 (HC2.out.touch T7.out (fun ad e hf => by have := HC2.out.lt ad e; omega)).rd (by omega))
  rw [HNB.out.2.2.2.1] at HOW
  go_wp2_with fail
  refine HOW.out.mono ?_
  rintro e w10 ⟨B7, d7, rfl, m7⟩
  have S10 := Lib.hid (S7.out.old m7.fresh)
  have T10 : Hid (Touch (fun k => w2.heap.size ≤ k) w2 w10) := T7.out.trans m7.fresh (fun _ _ h => h.elim)
  have C10 := Lib.hid m7.sl.rd
  clear m7 HOW S7 T7
  simp only
  go_wp2_with fail
  refine (sustat_any p2 G7s y7 lo (hi + 1 + 1) OK7.out nr nm B7 d7 nl w10 S10.out C10.out (by omega) HNB.out.2.1).mono ?_
  rintro e w5 ⟨rfl, s5, t5⟩
  have TT : Hid (Touch (fun k => w2.heap.size ≤ k) w2 w5) := T10.out.trans t5 (fun k hk hg => G7.out k hg)
  clear s5 t5 S10 T10 C10 OK7 G7
  generalize Sf.ustat y7 nr nm nl = z11 at *
  obtain ⟨y11, n11, e11⟩ := z11
  simp only
  have HB5 := Lib.hid (HB2.out.touch TT.out (fun k hk => by have := hwz.out; omega))
  have S5 : Hid (SendAt w5 p (Within F w.heap.size w.heap.size) (Sf.prog x)) := ((HI.out.send.old F2.out).away TT.out (fun k hk hf => by have := HLIM.out k hf; have := hwz.out; omega)).mono (fun _ h => .inl h)
  have I5 : Hid (SfIn w5 P x) := (HI.out.ins.old F2.out).touch HI.out.dom TT.out (fun k hk hf => by have := HDL.out k hk; have := hwz.out; omega)
  have D5 : Hid (SfD P (Within D w.heap.size w.heap.size)) := HI.out.dom.mono (fun _ h => .inl h)
  have T5 : Hid (Touch F w w5) := (F2.out.mono (fun _ _ h => h.elim)).trans TT.out (fun k hk h => by have := hwz.out; omega)
  have hw5 : Hid (w.heap.size ≤ w5.heap.size) := T5.out.size
  have HX : Hid (∀ W, Touch (· = w.heap.size + 1 + 1) w5 W → StepPost w p F D x lo (hi + 4) (.returned (.tuple #[.agg #[.int .i64 x.s, .int .i64 x.a, .int .i64 x.ms, .int .i64 x.ps, .int .i64 x.pa, .int .i64 x.units, .int .i64 x.polls, .int .i64 (x.most : Int), .slice P.W x.wait.length P.cw, .slice P.K x.kept.length P.ck, .slice P.L x.last.length P.cl, .slice P.G x.again.length P.cg], .bool true])) W) := fun W ht => by
    have h1 := hw5.out; have h5 := ht.size
    exact HI.out.done (S5.out.away ht (fun k hk hf => by
        have hk : k = w.heap.size + 1 + 1 := hk
        rcases hf with hf | hf
        · have := HLIM.out k hf; omega
        · omega)) (I5.out.touch D5.out ht (fun k hk hk2 => by
        have hk2 : k = w.heap.size + 1 + 1 := hk2
        rcases hk with hk | hk
        · have := HDL.out k hk; omega
        · omega)) D5.out (T5.out.trans ht (fun k hk e => by have e : k = w.heap.size + 1 + 1 := e; omega)) HOY.out (.inl (Nat.le_refl _)) (Nat.le_refl _) (Nat.le_refl _) (by omega) (by omega)
  clear TT HB2 F2
  have q0 : w5.cell? ⟨w.heap.size, 0, none⟩ = some (.int .i64 x.s) := HB5.out.sf.cell 0
  have q1 : w5.cell? ⟨w.heap.size, 1, none⟩ = some (.int .i64 x.a) := HB5.out.sf.cell 1
  have q2 : w5.cell? ⟨w.heap.size, 2, none⟩ = some (.int .i64 x.ms) := HB5.out.sf.cell 2
  have q3 : w5.cell? ⟨w.heap.size, 3, none⟩ = some (.int .i64 x.ps) := HB5.out.sf.cell 3
  have q4 : w5.cell? ⟨w.heap.size, 4, none⟩ = some (.int .i64 x.pa) := HB5.out.sf.cell 4
  have q5 : w5.cell? ⟨w.heap.size, 5, none⟩ = some (.int .i64 x.units) := HB5.out.sf.cell 5
  have q6 : w5.cell? ⟨w.heap.size, 6, none⟩ = some (.int .i64 x.polls) := HB5.out.sf.cell 6
  have q7 : w5.cell? ⟨w.heap.size, 7, none⟩ = some (.int .i64 (x.most : Int)) := HB5.out.sf.cell 7
  have q8 : w5.cell? ⟨w.heap.size, 8, none⟩ = some (.slice P.W x.wait.length P.cw) := HB5.out.sf.cell 8
  have q9 : w5.cell? ⟨w.heap.size, 9, none⟩ = some (.slice P.K x.kept.length P.ck) := HB5.out.sf.cell 9
  have qa : w5.cell? ⟨w.heap.size, 10, none⟩ = some (.slice P.L x.last.length P.cl) := HB5.out.sf.cell 10
  have qb : w5.cell? ⟨w.heap.size, 11, none⟩ = some (.slice P.G x.again.length P.cg) := HB5.out.sf.cell 11
  have r0 : w5.cell? ⟨w.heap.size + 1 + 1, 0, none⟩ = some (.int .i64 0) := HB5.out.res.cell 0
  have r1 : w5.cell? ⟨w.heap.size + 1 + 1, 1, none⟩ = some (.int .i64 0) := HB5.out.res.cell 1
  have r2 : w5.cell? ⟨w.heap.size + 1 + 1, 2, none⟩ = some (.int .i64 0) := HB5.out.res.cell 2
  have r3 : w5.cell? ⟨w.heap.size + 1 + 1, 3, none⟩ = some (.int .i64 0) := HB5.out.res.cell 3
  have r4 : w5.cell? ⟨w.heap.size + 1 + 1, 4, none⟩ = some (.int .i64 0) := HB5.out.res.cell 4
  have r5 : w5.cell? ⟨w.heap.size + 1 + 1, 5, none⟩ = some (.int .i64 0) := HB5.out.res.cell 5
  have r6 : w5.cell? ⟨w.heap.size + 1 + 1, 6, none⟩ = some (.int .i64 0) := HB5.out.res.cell 6
  have r7 : w5.cell? ⟨w.heap.size + 1 + 1, 7, none⟩ = some (.int .i64 0) := HB5.out.res.cell 7
  have r8 : w5.cell? ⟨w.heap.size + 1 + 1, 8, none⟩ = some (.slice none 0 0) := HB5.out.res.cell 8
  have r9 : w5.cell? ⟨w.heap.size + 1 + 1, 9, none⟩ = some (.slice none 0 0) := HB5.out.res.cell 9
  have ra : w5.cell? ⟨w.heap.size + 1 + 1, 10, none⟩ = some (.slice none 0 0) := HB5.out.res.cell 10
  have rb : w5.cell? ⟨w.heap.size + 1 + 1, 11, none⟩ = some (.slice none 0 0) := HB5.out.res.cell 11
  have fz := fun i => HB5.out.res.frozen i
  clear HB5 I5 S5 T5 D5 HI HOK HOY HLIM HDL HOFF HAM HNB HC2
  go_wp2
  exact bodyPost_ret (v := .tuple #[.agg #[.int .i64 x.s, .int .i64 x.a, .int .i64 x.ms, .int .i64 x.ps, .int .i64 x.pa, .int .i64 x.units, .int .i64 x.polls, .int .i64 (x.most : Int), .slice P.W x.wait.length P.cw, .slice P.K x.kept.length P.ck, .slice P.L x.last.length P.cl, .slice P.G x.again.length P.cg], .bool true]) (by simp [results, Tryz.results11, go_sem, r0, r1, r2, r3, r4, r5, r6, r7, r8, r9, ra, rb]) rfl (HX.out _ (Touch.st12 (S := (· = w.heap.size + 1 + 1)) (Touch.refl _ _) rfl))
end Go.Proofs.YtajdnllkkekmnaaGreat

namespace Go.Proofs.YtajdnllkkekmnaaGreat
open Go.RowKit

set_option maxHeartbeats 8000000 in
set_option maxRecDepth 8000 in
theorem step11_else {lo hi : Int} (p : Nat) (F D : Nat → Prop) (P : SfP) (x : Sf.S) (a : Act11) (A : Option Addr) (c : Nat) (w : World) (h : St11 w p F D P x lo hi) (hA : Rd intE w A c a.l) (hAl : a.l.length ≤ 9223372036854775807) (ham : a.m.size ≤ maxLen) (hh : hi + 4 - lo ≤ 4000) (hk : a.kind ≠ 1 ∧ a.kind ≠ 2 ∧ a.kind ≠ 3 ∧ a.kind ≠ 4 ∧ a.kind ≠ 5 ∧ a.kind ≠ 6) {y : Sf.S} (hy : Sf.put x (cut5 a.m) = y) :
    Calls Tryz.prog 11 #[.pointer (some ⟨p, 0, none⟩), sfV x P, act11V a A c] w (StepPost w p F D y lo (hi + 4)) := by
  have HI := Lib.hid h
  have HH := Lib.hid hh
  have hab : 0 ≤ x.a ∧ x.a ≤ 100000000 ∧ 0 ≤ x.s ∧ x.s ≤ 100000000 ∧ 0 ≤ x.pa ∧ x.pa ≤ 100000000 := by
    have h1 := h.ok.lo0; have h2 := h.ok.la; have h3 := h.ok.klen; have h4 := h.ok.shi; have h5 := h.ok.hl; have h6 := h.ok.lpa; have h7 := h.ok.pas; have h8 := h.ok.phi
    omega
  have HB : Hid (StBox w (((w.alloc (.cells #[.int .i64 x.s, .int .i64 x.a, .int .i64 x.ms, .int .i64 x.ps, .int .i64 x.pa, .int .i64 x.units, .int .i64 x.polls, .int .i64 (x.most : Int), .slice P.W x.wait.length P.cw, .slice P.K x.kept.length P.ck, .slice P.L x.last.length P.cl, .slice P.G x.again.length P.cg] 33)).alloc (.cells #[.int .i64 a.kind, .int .i64 a.r, .int .i64 a.mr, .int .i64 a.ps, .slice A a.l.length c, .bool a.raw, .string a.m] 38)).alloc (.cells #[.int .i64 0, .int .i64 0, .int .i64 0, .int .i64 0, .int .i64 0, .int .i64 0, .int .i64 0, .int .i64 0, .slice none 0 0, .slice none 0 0, .slice none 0 0, .slice none 0 0] 33)) P x a A c) := StBox.new w P x a A c
  have F1 : Hid (Fresh w (((w.alloc (.cells #[.int .i64 x.s, .int .i64 x.a, .int .i64 x.ms, .int .i64 x.ps, .int .i64 x.pa, .int .i64 x.units, .int .i64 x.polls, .int .i64 (x.most : Int), .slice P.W x.wait.length P.cw, .slice P.K x.kept.length P.ck, .slice P.L x.last.length P.cl, .slice P.G x.again.length P.cg] 33)).alloc (.cells #[.int .i64 a.kind, .int .i64 a.r, .int .i64 a.mr, .int .i64 a.ps, .slice A a.l.length c, .bool a.raw, .string a.m] 38)).alloc (.cells #[.int .i64 0, .int .i64 0, .int .i64 0, .int .i64 0, .int .i64 0, .int .i64 0, .int .i64 0, .int .i64 0, .slice none 0 0, .slice none 0 0, .slice none 0 0, .slice none 0 0] 33))) := (((Touch.refl _ _).alloc _).alloc _).alloc _
  have HNU : Hid (∀ W, Fresh w W → Calls Tryz.prog 15 #[act11V a A c, sfV x P] W fun e w' => ∃ C d, e = .returned (.tuple #[.int .i64 (Sf.numR x a), .int .i64 (Sf.numM x a), .int .i64 (Sf.numP x a), .slice C (Sf.numL x a).length d]) ∧ Mine intE W w' C d (Sf.numL x a)) := fun W hf =>
    nums11_any a A c x P W (hA.touch hf (fun _ _ _ h => h)) hAl hab
  have HNB : Hid ((0 ≤ Sf.numR x a ∧ Sf.numR x a < 16777216) ∧ (0 ≤ Sf.numM x a ∧ Sf.numM x a < 16777216) ∧ (0 ≤ Sf.numP x a ∧ Sf.numP x a < 16777216) ∧ (Sf.numL x a).map (fun n => n % 16777216) = Sf.numL x a ∧ (Sf.numL x a).length ≤ 12) := ⟨near11_bd _ _ _, near11_bd _ _ _, near11_bd _ _ _, numL_low x a, numL_len x a⟩
  have HOK := Lib.hid h.ok
  have HLIM := Lib.hid h.lim
  have HDL := Lib.hid h.dlim
  have HOFF := Lib.hid h.off
  have HAM := Lib.hid ham
  clear h hh hA ham
  unfold sfV act11V at HNU
  unfold sfV act11V
  have hk1 : (a.kind == 1) = false := by simpa using hk.1
  have hk2 : (a.kind == 2) = false := by simpa using hk.2.1
  have hk3 : (a.kind == 3) = false := by simpa using hk.2.2.1
  have hk4 : (a.kind == 4) = false := by simpa using hk.2.2.2.1
  have hk5 : (a.kind == 5) = false := by simpa using hk.2.2.2.2.1
  have hk6 : (a.kind == 6) = false := by simpa using hk.2.2.2.2.2
  clear hk
  generalize Sf.numR x a = nr at *
  generalize Sf.numM x a = nm at *
  generalize Sf.numP x a = np at *
  generalize Sf.numL x a = nl at *
  go_enter Tryz.func11, Tryz.ntmps11
  go_upto_region 1 with (fail)
  generalize World.alloc (World.alloc (World.alloc w _) _) _ = w1 at *
  have b0 : w1.cell? ⟨w.heap.size, 0, none⟩ = some (.int .i64 x.s) := HB.out.sf.cell 0
  have b1 : w1.cell? ⟨w.heap.size, 1, none⟩ = some (.int .i64 x.a) := HB.out.sf.cell 1
  have b2 : w1.cell? ⟨w.heap.size, 2, none⟩ = some (.int .i64 x.ms) := HB.out.sf.cell 2
  have b3 : w1.cell? ⟨w.heap.size, 3, none⟩ = some (.int .i64 x.ps) := HB.out.sf.cell 3
  have b4 : w1.cell? ⟨w.heap.size, 4, none⟩ = some (.int .i64 x.pa) := HB.out.sf.cell 4
  have b5 : w1.cell? ⟨w.heap.size, 5, none⟩ = some (.int .i64 x.units) := HB.out.sf.cell 5
  have b6 : w1.cell? ⟨w.heap.size, 6, none⟩ = some (.int .i64 x.polls) := HB.out.sf.cell 6
  have b7 : w1.cell? ⟨w.heap.size, 7, none⟩ = some (.int .i64 (x.most : Int)) := HB.out.sf.cell 7
  have b8 : w1.cell? ⟨w.heap.size, 8, none⟩ = some (.slice P.W x.wait.length P.cw) := HB.out.sf.cell 8
  have b9 : w1.cell? ⟨w.heap.size, 9, none⟩ = some (.slice P.K x.kept.length P.ck) := HB.out.sf.cell 9
  have ba : w1.cell? ⟨w.heap.size, 10, none⟩ = some (.slice P.L x.last.length P.cl) := HB.out.sf.cell 10
  have bb : w1.cell? ⟨w.heap.size, 11, none⟩ = some (.slice P.G x.again.length P.cg) := HB.out.sf.cell 11
  have a0 : w1.cell? ⟨w.heap.size + 1, 0, none⟩ = some (.int .i64 a.kind) := by have := HB.out.act.cell 0; unfold act11C at this; simpa using this
  have a1 : w1.cell? ⟨w.heap.size + 1, 1, none⟩ = some (.int .i64 a.r) := by have := HB.out.act.cell 1; unfold act11C at this; simpa using this
  have a2 : w1.cell? ⟨w.heap.size + 1, 2, none⟩ = some (.int .i64 a.mr) := by have := HB.out.act.cell 2; unfold act11C at this; simpa using this
  have a3 : w1.cell? ⟨w.heap.size + 1, 3, none⟩ = some (.int .i64 a.ps) := by have := HB.out.act.cell 3; unfold act11C at this; simpa using this
  have a4 : w1.cell? ⟨w.heap.size + 1, 4, none⟩ = some (.slice A a.l.length c) := by have := HB.out.act.cell 4; unfold act11C at this; simpa using this
  have a5 : w1.cell? ⟨w.heap.size + 1, 5, none⟩ = some (.bool a.raw) := by have := HB.out.act.cell 5; unfold act11C at this; simpa using this
  have a6 : w1.cell? ⟨w.heap.size + 1, 6, none⟩ = some (.string a.m) := by have := HB.out.act.cell 6; unfold act11C at this; simpa using this
  go_wp2_with fail
  refine (HNU.out w1 F1.out).mono ?_
  rintro e w2 ⟨C, d, rfl, m⟩
  have HB2 := Lib.hid (HB.out.old m.fresh)
  have F2 : Hid (Fresh w w2) := F1.out.trans m.fresh (fun _ _ h => h)
  have HC2 : Hid (Sl intE w2 C d nl) := m.sl
  have hwz : Hid (w.heap.size + 1 + 1 < w2.heap.size) := HB2.out.res.lt
  clear b0 b1 b2 b3 b4 b5 b6 b7 b8 b9 ba bb a0 a1 a2 a3 a4 a5 a6 m HNU HB F1
  simp only
  have b0 : w2.cell? ⟨w.heap.size, 0, none⟩ = some (.int .i64 x.s) := HB2.out.sf.cell 0
  have b1 : w2.cell? ⟨w.heap.size, 1, none⟩ = some (.int .i64 x.a) := HB2.out.sf.cell 1
  have b2 : w2.cell? ⟨w.heap.size, 2, none⟩ = some (.int .i64 x.ms) := HB2.out.sf.cell 2
  have b3 : w2.cell? ⟨w.heap.size, 3, none⟩ = some (.int .i64 x.ps) := HB2.out.sf.cell 3
  have b4 : w2.cell? ⟨w.heap.size, 4, none⟩ = some (.int .i64 x.pa) := HB2.out.sf.cell 4
  have b5 : w2.cell? ⟨w.heap.size, 5, none⟩ = some (.int .i64 x.units) := HB2.out.sf.cell 5
  have b6 : w2.cell? ⟨w.heap.size, 6, none⟩ = some (.int .i64 x.polls) := HB2.out.sf.cell 6
  have b7 : w2.cell? ⟨w.heap.size, 7, none⟩ = some (.int .i64 (x.most : Int)) := HB2.out.sf.cell 7
  have b8 : w2.cell? ⟨w.heap.size, 8, none⟩ = some (.slice P.W x.wait.length P.cw) := HB2.out.sf.cell 8
  have b9 : w2.cell? ⟨w.heap.size, 9, none⟩ = some (.slice P.K x.kept.length P.ck) := HB2.out.sf.cell 9
  have ba : w2.cell? ⟨w.heap.size, 10, none⟩ = some (.slice P.L x.last.length P.cl) := HB2.out.sf.cell 10
  have bb : w2.cell? ⟨w.heap.size, 11, none⟩ = some (.slice P.G x.again.length P.cg) := HB2.out.sf.cell 11
  have a0 : w2.cell? ⟨w.heap.size + 1, 0, none⟩ = some (.int .i64 a.kind) := by have := HB2.out.act.cell 0; unfold act11C at this; simpa using this
  have a6 : w2.cell? ⟨w.heap.size + 1, 6, none⟩ = some (.string a.m) := by have := HB2.out.act.cell 6; unfold act11C at this; simpa using this
  have HOY : Hid (Sf.Ok y lo (hi + 4)) := by rw [← hy]; exact (HOK.out.put _).mono (by omega) HH.out
  have HCT := Lib.hid (fun W => cut5_any a.m W HAM.out)
  have HNX := Lib.hid (sfput_any P D x (cut5 a.m) w2 (HI.out.ins.old F2.out) HI.out.dom (fun k hk => Nat.lt_of_lt_of_le (HDL.out k hk) F2.out.size) HOK.out)
  have HNP : Hid (∀ (W : World), SendAt W p F (Sf.prog x) → Calls Tryz.prog 20 #[.pointer (some ⟨p, 0, none⟩), .string (cut5 a.m)] W fun e w' => e = .returned (.int .i64 (if x.wait.length < x.most then 0 else 7)) ∧ SendAt w' p (Grown F W) (Sf.prog y) ∧ Touch F W w') := fun W hW => by
    have := sput_any p F (Sf.prog x) (cut5 a.m) W hW
    rw [Sf.prog_put, hy] at this
    exact this
  rw [hy] at HNX
  unfold sfV at HNX
  clear hy
  generalize cut5 a.m = v at *
  have hroom : ∃ q : Bool, decide (x.wait.length < x.most) = q ∧ ((if x.wait.length < x.most then (0 : Int) else 7) == 0) = q := by
    by_cases hr : x.wait.length < x.most
    · exact ⟨true, decide_eq_true hr, by rw [if_pos hr]; rfl⟩
    · exact ⟨false, decide_eq_false hr, by rw [if_neg hr]; rfl⟩
  obtain ⟨q, hq1, hq2⟩ := hroom
  rw [hq1] at HNX
  generalize (if x.wait.length < x.most then (0 : Int) else 7) = zq at *
  clear hq1
  go_wp2_with fail
  refine (HCT.out _).mono ?_
  rintro e w4 ⟨rfl, h4⟩
  subst h4
  simp only
  go_wp2_with fail
  refine HNX.out.mono ?_
  rintro e w3 ⟨V, rfl, ho⟩
  obtain ⟨Q, rfl, i3, d3, f3⟩ := ho.open_
  have HB3 := Lib.hid (HB2.out.old f3)
  have F3 : Hid (Fresh w w3) := F2.out.trans f3 (fun _ _ h => h)
  have I3 := Lib.hid i3
  have D3 := Lib.hid d3
  have hz3 : Hid (w4.heap.size ≤ w3.heap.size) := f3.size
  clear ho i3 d3 f3 HNX HB2 F2 HC2 b0 b1 b2 b3 b4 b5 b6 b7 b8 b9 ba bb a0 a6 HCT
  unfold sfV
  simp only
  go_upto_region 33 with (fail)
  have HB12 : Hid (Blk (w3.alloc (.cells #[.int .i64 y.s, .int .i64 y.a, .int .i64 y.ms, .int .i64 y.ps, .int .i64 y.pa, .int .i64 y.units, .int .i64 y.polls, .int .i64 (y.most : Int), .slice Q.W y.wait.length Q.cw, .slice Q.K y.kept.length Q.ck, .slice Q.L y.last.length Q.cl, .slice Q.G y.again.length Q.cg] 33)) w3.heap.size 33 (sfCells y Q)) := Blk.new w3 _ (sfCells y Q)
  have f4 : Fresh w3 (w3.alloc (.cells #[.int .i64 y.s, .int .i64 y.a, .int .i64 y.ms, .int .i64 y.ps, .int .i64 y.pa, .int .i64 y.units, .int .i64 y.polls, .int .i64 (y.most : Int), .slice Q.W y.wait.length Q.cw, .slice Q.K y.kept.length Q.ck, .slice Q.L y.last.length Q.cl, .slice Q.G y.again.length Q.cg] 33)) := (Touch.refl _ _).alloc _
  have HB4 := Lib.hid (HB3.out.old f4)
  have F4 : Hid (Fresh w (w3.alloc (.cells #[.int .i64 y.s, .int .i64 y.a, .int .i64 y.ms, .int .i64 y.ps, .int .i64 y.pa, .int .i64 y.units, .int .i64 y.polls, .int .i64 (y.most : Int), .slice Q.W y.wait.length Q.cw, .slice Q.K y.kept.length Q.ck, .slice Q.L y.last.length Q.cl, .slice Q.G y.again.length Q.cg] 33))) := F3.out.trans f4 (fun _ _ h => h)
  have I4 := Lib.hid (I3.out.old f4)
  have hz4 : Hid (w3.heap.size < (w3.alloc (.cells #[.int .i64 y.s, .int .i64 y.a, .int .i64 y.ms, .int .i64 y.ps, .int .i64 y.pa, .int .i64 y.units, .int .i64 y.polls, .int .i64 (y.most : Int), .slice Q.W y.wait.length Q.cw, .slice Q.K y.kept.length Q.ck, .slice Q.L y.last.length Q.cl, .slice Q.G y.again.length Q.cg] 33)).heap.size) := HB12.out.lt
  clear f4 HB3 F3 I3
  generalize World.alloc w3 _ = w7 at *
  have HNP7 := Lib.hid (HNP.out w7.drew ((HI.out.send.old F4.out).old ((Touch.refl _ _).drew)))
  have HX : Hid (∀ w5 W, SendAt w5 p (Grown F w7) (Sf.prog y) → Touch F w7 w5 → Touch (· = w.heap.size + 1 + 1) w5 W → StepPost w p F D y lo (hi + 4) (.returned (.tuple #[.agg #[.int .i64 y.s, .int .i64 y.a, .int .i64 y.ms, .int .i64 y.ps, .int .i64 y.pa, .int .i64 y.units, .int .i64 y.polls, .int .i64 (y.most : Int), .slice Q.W y.wait.length Q.cw, .slice Q.K y.kept.length Q.ck, .slice Q.L y.last.length Q.cl, .slice Q.G y.again.length Q.cg], .bool true])) W) := fun w5 W s5 t5 ht => by
    have h1 := hwz.out; have h2 := hz3.out; have h3 := hz4.out; have h4 := t5.size; have h5 := ht.size
    have i5 := I4.out.touch D3.out t5 (fun k hk hf => by
      have h1 := HLIM.out k hf
      rcases hk with hk | hk
      · exact HOFF.out k hf hk
      · omega)
    have S5 := Lib.hid s5.within
    have I5 := Lib.hid i5
    have T5 : Hid (Touch F w w5) := (F4.out.mono (fun _ _ h => h.elim)).trans t5 (fun _ _ h => h)
    exact HI.out.done (S5.out.away ht (fun k hk hf => by
        have hk : k = w.heap.size + 1 + 1 := hk
        rcases hf with hf | hf
        · have := HLIM.out k hf; omega
        · omega)) (I5.out.touch D3.out ht (fun k hk hk2 => by
        have hk2 : k = w.heap.size + 1 + 1 := hk2
        rcases hk with hk | hk
        · have := HDL.out k hk; omega
        · omega)) D3.out (T5.out.trans ht (fun k hk e => by have e : k = w.heap.size + 1 + 1 := e; omega)) HOY.out (.inr (by omega)) (by omega) (by omega) (by omega) (by omega)
  obtain ⟨b12, hb12⟩ : ∃ b, w3.heap.size = b := ⟨_, rfl⟩
  have hbne : Hid (b12 ≠ w.heap.size + 1 + 1 ∧ ¬ F b12) := ⟨by have h1 := hwz.out; have h2 := hz3.out; omega, fun hf => by have h1 := hwz.out; have h2 := hz3.out; have h3 := HLIM.out _ hf; omega⟩
  rw [hb12] at HB12 ⊢
  clear hb12
  have KE : Hid (∀ W, Touch (fun k => F k ∨ k = w.heap.size + 1 + 1) w7 W → W.cell? ⟨b12, 0, none⟩ = some (.int .i64 y.s) ∧ W.cell? ⟨b12, 1, none⟩ = some (.int .i64 y.a) ∧ W.cell? ⟨b12, 2, none⟩ = some (.int .i64 y.ms) ∧ W.cell? ⟨b12, 3, none⟩ = some (.int .i64 y.ps) ∧ W.cell? ⟨b12, 4, none⟩ = some (.int .i64 y.pa) ∧ W.cell? ⟨b12, 5, none⟩ = some (.int .i64 y.units) ∧ W.cell? ⟨b12, 6, none⟩ = some (.int .i64 y.polls) ∧ W.cell? ⟨b12, 7, none⟩ = some (.int .i64 (y.most : Int)) ∧ W.cell? ⟨b12, 8, none⟩ = some (.slice Q.W y.wait.length Q.cw) ∧ W.cell? ⟨b12, 9, none⟩ = some (.slice Q.K y.kept.length Q.ck) ∧ W.cell? ⟨b12, 10, none⟩ = some (.slice Q.L y.last.length Q.cl) ∧ W.cell? ⟨b12, 11, none⟩ = some (.slice Q.G y.again.length Q.cg)) := fun W ht => by
    have hb := ht.blk HB12.out (fun e => e.elim hbne.out.2 (fun e => hbne.out.1 e))
    exact ⟨hb.cell 0, hb.cell 1, hb.cell 2, hb.cell 3, hb.cell 4, hb.cell 5, hb.cell 6, hb.cell 7, hb.cell 8, hb.cell 9, hb.cell 10, hb.cell 11⟩
  have ZE : Hid (∀ W, Touch F w7 W → W.cell? ⟨w.heap.size + 1 + 1, 0, none⟩ = some (.int .i64 0) ∧ W.cell? ⟨w.heap.size + 1 + 1, 1, none⟩ = some (.int .i64 0) ∧ W.cell? ⟨w.heap.size + 1 + 1, 2, none⟩ = some (.int .i64 0) ∧ W.cell? ⟨w.heap.size + 1 + 1, 3, none⟩ = some (.int .i64 0) ∧ W.cell? ⟨w.heap.size + 1 + 1, 4, none⟩ = some (.int .i64 0) ∧ W.cell? ⟨w.heap.size + 1 + 1, 5, none⟩ = some (.int .i64 0) ∧ W.cell? ⟨w.heap.size + 1 + 1, 6, none⟩ = some (.int .i64 0) ∧ W.cell? ⟨w.heap.size + 1 + 1, 7, none⟩ = some (.int .i64 0) ∧ W.cell? ⟨w.heap.size + 1 + 1, 8, none⟩ = some (.slice none 0 0) ∧ W.cell? ⟨w.heap.size + 1 + 1, 9, none⟩ = some (.slice none 0 0) ∧ W.cell? ⟨w.heap.size + 1 + 1, 10, none⟩ = some (.slice none 0 0) ∧ W.cell? ⟨w.heap.size + 1 + 1, 11, none⟩ = some (.slice none 0 0) ∧ ∀ i, W.frozen? ⟨w.heap.size + 1 + 1, i, none⟩ = false) := fun W ht => by
    have hb := ht.blk HB4.out.res (fun hf => by have := HLIM.out _ hf; omega)
    exact ⟨hb.cell 0, hb.cell 1, hb.cell 2, hb.cell 3, hb.cell 4, hb.cell 5, hb.cell 6, hb.cell 7, hb.cell 8, hb.cell 9, hb.cell 10, hb.cell 11, fun i => hb.frozen i⟩
  have q0 : w7.cell? ⟨b12, 0, none⟩ = some (.int .i64 y.s) := HB12.out.cell 0
  have q1 : w7.cell? ⟨b12, 1, none⟩ = some (.int .i64 y.a) := HB12.out.cell 1
  have q2 : w7.cell? ⟨b12, 2, none⟩ = some (.int .i64 y.ms) := HB12.out.cell 2
  have q3 : w7.cell? ⟨b12, 3, none⟩ = some (.int .i64 y.ps) := HB12.out.cell 3
  have q4 : w7.cell? ⟨b12, 4, none⟩ = some (.int .i64 y.pa) := HB12.out.cell 4
  have q5 : w7.cell? ⟨b12, 5, none⟩ = some (.int .i64 y.units) := HB12.out.cell 5
  have q6 : w7.cell? ⟨b12, 6, none⟩ = some (.int .i64 y.polls) := HB12.out.cell 6
  have q7 : w7.cell? ⟨b12, 7, none⟩ = some (.int .i64 (y.most : Int)) := HB12.out.cell 7
  have q8 : w7.cell? ⟨b12, 8, none⟩ = some (.slice Q.W y.wait.length Q.cw) := HB12.out.cell 8
  have q9 : w7.cell? ⟨b12, 9, none⟩ = some (.slice Q.K y.kept.length Q.ck) := HB12.out.cell 9
  have qa : w7.cell? ⟨b12, 10, none⟩ = some (.slice Q.L y.last.length Q.cl) := HB12.out.cell 10
  have qb : w7.cell? ⟨b12, 11, none⟩ = some (.slice Q.G y.again.length Q.cg) := HB12.out.cell 11
  clear HB12 HB4 I4 D3 HI HOK HOY HLIM HDL HOFF HAM HNB HNP F4
  have T0 : Touch (fun k => F k ∨ k = w.heap.size + 1 + 1) w7 w7.drew := (Touch.refl _ _).drew
  go_region_held3 (fun wx => wx.cell? ⟨b12, 0, none⟩ = some (.int .i64 y.s) ∧ wx.cell? ⟨b12, 1, none⟩ = some (.int .i64 y.a) ∧ wx.cell? ⟨b12, 2, none⟩ = some (.int .i64 y.ms) ∧ wx.cell? ⟨b12, 3, none⟩ = some (.int .i64 y.ps) ∧ wx.cell? ⟨b12, 4, none⟩ = some (.int .i64 y.pa) ∧ wx.cell? ⟨b12, 5, none⟩ = some (.int .i64 y.units) ∧ wx.cell? ⟨b12, 6, none⟩ = some (.int .i64 y.polls) ∧ wx.cell? ⟨b12, 7, none⟩ = some (.int .i64 (y.most : Int)) ∧ wx.cell? ⟨b12, 8, none⟩ = some (.slice Q.W y.wait.length Q.cw) ∧ wx.cell? ⟨b12, 9, none⟩ = some (.slice Q.K y.kept.length Q.ck) ∧ wx.cell? ⟨b12, 10, none⟩ = some (.slice Q.L y.last.length Q.cl) ∧ wx.cell? ⟨b12, 11, none⟩ = some (.slice Q.G y.again.length Q.cg))
    (first
      | with_reducible exact KE.out _ (by with_reducible assumption)
      | exact KE.out _ (Touch.st12 (S := fun k => F k ∨ k = w.heap.size + 1 + 1) T6 (.inr rfl)))
    (first
      | (go_simp; go_at_call 20; (with_reducible refine HNP7.out.mono ?_); rintro e' w6 ⟨rfl, s6, t6⟩; have T6f : Touch F w7 w6 := (Touch.refl F w7).drew.trans t6 (fun _ _ h => h); have T6 : Touch (fun k => F k ∨ k = w.heap.size + 1 + 1) w7 w6 := T6f.mono (fun _ _ h => .inl h); have hx6 := fun W ht => HX.out w6 W s6 T6f ht; obtain ⟨r0, r1, r2, r3, r4, r5, r6, r7, r8, r9, ra, rb, fz⟩ := ZE.out w6 T6f))
  all_goals
    have HX6 := Lib.hid hx6
    clear hx6 T6 T6f t6 s6 T0 KE ZE HNP7 HX
    go_wp2
    exact bodyPost_ret (v := .tuple #[.agg #[.int .i64 y.s, .int .i64 y.a, .int .i64 y.ms, .int .i64 y.ps, .int .i64 y.pa, .int .i64 y.units, .int .i64 y.polls, .int .i64 (y.most : Int), .slice Q.W y.wait.length Q.cw, .slice Q.K y.kept.length Q.ck, .slice Q.L y.last.length Q.cl, .slice Q.G y.again.length Q.cg], .bool true]) (by simp [results, Tryz.results11, go_sem, r0, r1, r2, r3, r4, r5, r6, r7, r8, r9, ra, rb]) rfl (HX6.out _ (Touch.st12 (S := (· = w.heap.size + 1 + 1)) (Touch.refl _ _) rfl))
end Go.Proofs.YtajdnllkkekmnaaGreat

namespace Go.Proofs.YtajdnllkkekmnaaGreat
open Go.RowKit

theorem step11_any {lo hi : Int} (p : Nat) (F D : Nat → Prop) (P : SfP) (x : Sf.S) (a : Act11) (A : Option Addr) (c : Nat) (w : World) (h : St11 w p F D P x lo hi) (hA : Rd intE w A c a.l) (hAl : a.l.length ≤ 9223372036854775807) (ham : a.m.size ≤ maxLen) (hh : hi + 4 - lo ≤ 4000) :
    Calls Tryz.prog 11 #[.pointer (some ⟨p, 0, none⟩), sfV x P, act11V a A c] w (StepPost w p F D (Sf.step x a (cut5 a.m)) lo (hi + 4)) := by
  by_cases h1 : a.kind = 1
  · rw [show Sf.step x a (cut5 a.m) = (Sf.next x).1 by unfold Sf.step; rw [if_pos h1]]
    exact step11_1 p F D P x a A c w h hA hAl ham hh h1 rfl
  by_cases h2 : a.kind = 2
  · rw [show Sf.step x a (cut5 a.m) = Sf.poll x by unfold Sf.step; rw [if_neg h1, if_pos h2]]
    exact step11_2 p F D P x a A c w h hA hAl ham hh h2 rfl
  by_cases h3 : a.kind = 3
  · rw [show Sf.step x a (cut5 a.m) = (Sf.stat x (Sf.numR x a) (Sf.numM x a) (Sf.numP x a) (Sf.numL x a)).1 by unfold Sf.step; rw [if_neg h1, if_neg h2, if_pos h3]]
    exact step11_3 p F D P x a A c w h hA hAl ham hh h3 rfl
  by_cases h4 : a.kind = 4
  · rw [show Sf.step x a (cut5 a.m) = (Sf.ustat x (Sf.numR x a) (Sf.numM x a) (Sf.numL x a)).1 by unfold Sf.step; rw [if_neg h1, if_neg h2, if_neg h3, if_pos h4]]
    exact step11_4 p F D P x a A c w h hA hAl ham hh h4 rfl
  by_cases h5 : a.kind = 5
  · rw [show Sf.step x a (cut5 a.m) = Sf.opn x (Sf.numM x a) by unfold Sf.step; rw [if_neg h1, if_neg h2, if_neg h3, if_neg h4, if_pos h5]]
    exact step11_5 p F D P x a A c w h hA hAl ham hh h5 rfl
  by_cases h6 : a.kind = 6
  · rw [show Sf.step x a (cut5 a.m) = x by unfold Sf.step; rw [if_neg h1, if_neg h2, if_neg h3, if_neg h4, if_neg h5, if_pos h6]]
    exact step11_6 p F D P x a A c w h hA hAl ham hh h6
  · rw [show Sf.step x a (cut5 a.m) = Sf.put x (cut5 a.m) by unfold Sf.step; rw [if_neg h1, if_neg h2, if_neg h3, if_neg h4, if_neg h5, if_neg h6]]
    exact step11_else p F D P x a A c w h hA hAl ham hh ⟨h1, h2, h3, h4, h5, h6⟩ rfl
end Go.Proofs.YtajdnllkkekmnaaGreat
