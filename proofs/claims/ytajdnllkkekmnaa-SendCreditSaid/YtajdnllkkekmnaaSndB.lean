/-
  send.Send: out, Next.
-/
import Derived.Test.YtajdnllkkekmnaaSndA
import Derived.StillTailTactics
namespace Go.Proofs.Ytajdnllkkekmnaa
open Go.RowKit

/-- Four results at once. -/
theorem results_tmp4 {fn : Func} {t u v x : Tmp} (h : fn.results = #[.tmp t, .tmp u, .tmp v, .tmp x]) (tmps : Array Value) (P : Program) (w : World) :
    (results fn tmps).run P w = .ok (.tuple #[tmps.getD t undef, tmps.getD u undef, tmps.getD v undef, tmps.getD x undef]) w := by
  simp [results, h]

/-- A message is kept: the map's entry, the count. -/
theorem SendIn.outed {w w1 : World} {p g : Nat} {b : Option Nat} {k : Nat} {A : Option Addr} {c : Nat} {st : Sd.S} (h : SendIn w p g b k A c st) {n : Int} {v : ByteArray} (hm : MapAt numK w1 k (mset (Sd.mapV st.m) n (Sd.itemV (v, st.ps)))) (ht : Touch (· = k) w w1) :
    w1.cell? ⟨p, 5, none⟩ = some (.int .i64 st.units) ∧ w1.frozen? ⟨p, 5, none⟩ = false ∧ SendIn (w1.setCell ⟨p, 5, none⟩ (.int .i64 (st.units + 1))) p g b k A c (Sd.out st n v) := by
  rw [Sd.mapV_set] at hm
  have h1 : SendIn w1 p g b k A c { st with m := mset st.m n (v, st.ps) } :=
    ⟨ht.blk h.blk (fun e => h.ne_k e.symm), h.ring.touch ht (fun e => h.k_ne_g e.symm) (fun z e e2 => h.k_ne_b (by rw [e, e2])), hm, h.ag.touch ht (fun ad e => h.A_ne_k ad e)⟩
  exact ⟨h1.blk.cell 5, h1.blk.frozen 5, h1.scalar 5 _ rfl rfl rfl rfl rfl⟩

set_option maxRecDepth 4000 in
theorem sout_any (p : Nat) (F : Nat → Prop) (st : Sd.S) (n : Int) (v : ByteArray) (w : World) (h : SendAt w p F st) (hu : 0 ≤ st.units ∧ st.units < 4611686018427387904) :
    Calls Try.prog 24 #[.pointer (some ⟨p, 0, none⟩), .int .u32 n, .string v] w fun e w' => e = .returned (.tuple #[]) ∧ SendAt w' p F (Sd.out st n v) ∧ Touch F w w' := by
  obtain ⟨g, b, k, A, c, h1, hF⟩ := h.open_
  have c3 : w.cell? ⟨p, 3, none⟩ = some (.int .u32 st.ps) := h1.blk.cell 3
  have c8 : w.cell? ⟨p, 8, none⟩ = some (.map (some k)) := h1.blk.cell 8
  have HM := Lib.hid h1.map
  have HI := Lib.hid h1
  have HF := Lib.hid hF
  obtain ⟨hu0, hu1⟩ := hu
  clear h h1 hF
  go_enter Try.func24, Try.ntmps24
  go_wp2_with fail
  go_still_tail 11, (by kernel_rfl)
  go_wp2_with (refine wpList_storeM rfl rfl (k := n) rfl rfl (HM.out.drew) Try.underlying51 ?_; intro w1 hm ht; have T1 : Hid (Touch (· = k) w w1) := (Touch.refl _ w).drew.trans ht (fun _ _ h => h); obtain ⟨c5, f5, i5⟩ := HI.out.outed hm T1.out; have HX : Hid (SendAt (w1.setCell ⟨p, 5, none⟩ (.int .i64 (st.units + 1))) p F (Sd.out st n v)) := SendAt.mk' i5 HF.out; have HT : Hid (Touch F w (w1.setCell ⟨p, 5, none⟩ (.int .i64 (st.units + 1)))) := (T1.out.mono fun z _ e => e ▸ HF.out.k).st HF.out.p; clear hm ht T1 i5 HI HF HM c3 c8; generalize st.units = u at *)
  go_end0
  exact ⟨rfl, HX.out, HT.out⟩

/-- Nothing goes again, and there is no credit: nothing goes out. -/
theorem snext_stop (p : Nat) (F : Nat → Prop) (st : Sd.S) (w : World) (h : SendAt w p F st) (ha : st.again = []) (hs : st.s = st.ms) :
    Calls Try.prog 11 #[.pointer (some ⟨p, 0, none⟩)] w fun e w' => e = .returned (.tuple #[.int .u32 0, .string ByteArray.empty, .bool false, .bool false]) ∧ SendAt w' p F st ∧ Touch F w w' := by
  obtain ⟨g, b, k, A, c, h1, hF⟩ := h.open_
  have c0 : w.cell? ⟨p, 0, none⟩ = some (.int .u32 st.s) := h1.blk.cell 0
  have c2 : w.cell? ⟨p, 2, none⟩ = some (.int .u32 st.ms) := h1.blk.cell 2
  have c9 : w.cell? ⟨p, 9, none⟩ = some (.slice A st.again.length c) := h1.blk.cell 9
  rw [ha, List.length_nil] at c9
  rw [← hs] at c2
  have HI := Lib.hid h1
  have HF := Lib.hid hF
  clear h h1 hF ha hs
  generalize st.s = s at *
  go_enter Try.func11, Try.ntmps11
  go_wp2
  go_quiet (fail)
  go_wp2
  exact bodyPost_ret (results_tmp4 rfl _ _ _) rfl ⟨rfl, SendAt.mk' (HI.out.drewN _) HF.out, (Touch.refl _ _).drewN _⟩

set_option maxHeartbeats 1000000 in
/-- Nothing goes again, there is credit, and something waits: it goes out. -/
theorem snext_new (p : Nat) (F : Nat → Prop) (st : Sd.S) (v : ByteArray) (r : List ByteArray) (w : World) (h : SendAt w p F st) (ha : st.again = []) (hs : st.s ≠ st.ms) (hq : st.q = v :: r) (hu : 0 ≤ st.units ∧ st.units < 4611686018427387904) :
    Calls Try.prog 11 #[.pointer (some ⟨p, 0, none⟩)] w fun e w' => e = .returned (.tuple #[.int .u32 st.s, .string v, .bool true, .bool true]) ∧ SendAt w' p F (Sd.new1 st v r) ∧ Touch F w w' := by
  obtain ⟨g, b, k, A, c, h1, hF⟩ := h.open_
  have c0 : w.cell? ⟨p, 0, none⟩ = some (.int .u32 st.s) := h1.blk.cell 0
  have c2 : w.cell? ⟨p, 2, none⟩ = some (.int .u32 st.ms) := h1.blk.cell 2
  have c7 : w.cell? ⟨p, 7, none⟩ = some (.pointer (some ⟨g, 0, none⟩)) := h1.blk.cell 7
  have c9 : w.cell? ⟨p, 9, none⟩ = some (.slice A st.again.length c) := h1.blk.cell 9
  rw [ha, List.length_nil] at c9
  have hb : (st.s == st.ms) = false := by simpa using hs
  have HR := Lib.hid (fun n => ringStr_take g b st.most st.q (w.drewN n) (h1.ring.same rfl))
  rw [hq] at HR
  have HI := Lib.hid h1
  have HF := Lib.hid hF
  have HU := Lib.hid hu
  clear h h1 hF ha hs hq hu
  obtain ⟨s, hse⟩ : ∃ s, s = st.s := ⟨_, rfl⟩
  have HSE := Lib.hid hse
  rw [← hse] at c0 hb ⊢
  clear hse
  generalize st.ms = ms at *
  go_enter Try.func11, Try.ntmps11
  go_wp2
  go_quiet (fail)
  go_wp2_with fail
  refine (HR.out _).mono ?_
  rintro e w1 ⟨rfl, hr, ht⟩
  have I1 : Hid (SendIn w1 p g b k A c { st with q := r }) := (HI.out.drewN _).ringed hr ht
  have T1 : Hid (Touch F w w1) := ((Touch.refl _ _).drewN _).trans ht (fun x _ hx => HF.out.foot x hx)
  have d0 : w1.cell? ⟨p, 0, none⟩ = some (.int .u32 s) := by rw [HSE.out]; exact I1.out.blk.cell 0
  clear hr ht HR HI c0 c2 c7 c9
  simp only [List.length_cons, Nat.add_one_ne_zero, if_false, List.getD_cons_zero]
  go_upto_region 13 with (fail)
  go_wp2_with fail
  refine (sout_any p F { st with q := r } s v w1 (SendAt.mk' I1.out HF.out) HU.out).mono ?_
  rintro e w2 ⟨rfl, h2, t2⟩
  obtain ⟨g', b', k', A', c', i2, f2⟩ := h2.open_
  have e0 : w2.cell? ⟨p, 0, none⟩ = some (.int .u32 st.s) := i2.blk.cell 0
  have f0 := i2.blk.frozen 0
  have HX : Hid (SendAt (w2.setCell ⟨p, 0, none⟩ (.int .u32 ((s + 1) % 16777216))) p F (Sd.new1 st v r)) := by
    rw [HSE.out] at i2 ⊢
    exact SendAt.mk' (i2.scalar (st' := Sd.new1 st v r) 0 _ rfl rfl rfl rfl rfl) f2
  have HT : Hid (Touch F w (w2.setCell ⟨p, 0, none⟩ (.int .u32 ((s + 1) % 16777216)))) := (T1.out.trans t2 (fun _ _ h => h)).st HF.out.p
  clear h2 i2 f2 t2 I1 T1 d0 HU HF
  generalize st.s = s' at *
  simp only
  go_wp2_with fail
  refine (sadd_any s 1 w2).mono ?_
  rintro e w3 ⟨rfl, rfl⟩
  simp only
  go_wp2
  exact bodyPost_ret (results_tmp4 rfl _ _ _) rfl ⟨rfl, HX.out, HT.out⟩
end Go.Proofs.Ytajdnllkkekmnaa
