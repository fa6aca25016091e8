/-
  polliwoglaw04.RingClones: one just like it goes its own way, and so does the row.
-/
import Derived.Test.YtfieckhhckfjiaaRingPlay
import Derived.Test.YtfieckhhckfjiaaOpen2
import Derived.Lib.SmallJoins
namespace Go.Proofs.Ytfieckhhckfjiaa
open Go.RowKit Go.ChangeShapes Go.WideShapes Go.ChangeAt

theorem and15_in (y : Int) : 0 ≤ bits .and .i64 y 15 ∧ bits .and .i64 y 15 ≤ 15 := by rw [and_15]; omega

set_option maxRecDepth 100000 in
set_option maxHeartbeats 400000 in
theorem ringClones.core (x : Int) (m : Nat) (hx : 1 + bits .and .i64 x 15 = (m : Int)) (hm : 1 ≤ m ∧ m ≤ 16) (A1 A2 A3 : Option Addr) (c1 c2 c3 : Nat) (L1 L2 L3 : List (Int × Int)) (w : World)
    (hr1 : Rd act4E w A1 c1 L1) (hr2 : Rd act4E w A2 c2 L2) (hr3 : Rd act4E w A3 c3 L3) :
    Calls Try.prog 5 #[.agg #[.int .i64 x, .slice A1 L1.length c1, .slice A2 L2.length c2, .slice A3 L3.length c3]] w fun e w' => e = .returned (.bool true) ∧ Below w.heap.size w w' := by
  have hx1 := and15_in x
  have R1 := Lib.hid hr1
  have R2 := Lib.hid hr2
  have R3 := Lib.hid hr3
  clear hr1 hr2 hr3
  go_enter Try.func5, Try.ntmps5
  go_wp2_with fail
  refine (awake04_any _).mono ?_
  rintro e w1 ⟨rfl, t1⟩
  have B1 := t1.blk (Blk.new w 44 [.int .i64 x, .slice A1 L1.length c1, .slice A2 L2.length c2, .slice A3 L3.length c3]) (fun h => h)
  have e0 : w1.cell? ⟨w.heap.size, 0, none⟩ = some (.int .i64 x) := B1.cell 0
  have e1 : w1.cell? ⟨w.heap.size, 1, none⟩ = some (.slice A1 L1.length c1) := B1.cell 1
  have e2 : w1.cell? ⟨w.heap.size, 2, none⟩ = some (.slice A2 L2.length c2) := B1.cell 2
  have e3 : w1.cell? ⟨w.heap.size, 3, none⟩ = some (.slice A3 L3.length c3) := B1.cell 3
  have F1 : Hid (Fresh w w1) := ((Touch.refl _ w).alloc _).trans t1 (fun _ _ h => h)
  clear t1 B1
  go_wp2
  go_quiet (fail)
  go_wp2_with fail
  refine (ringInt_new (m : Int) _).mono ?_
  rintro e w2 ⟨rfl, r2, t2⟩
  rw [show (max 0 (min (m : Int) 4096)).toNat = m by omega] at r2
  have F2 : Hid (Fresh w w2) := F1.out.trans (((Touch.refl _ w1).drewN _).trans t2 (fun _ _ h => h)) (fun _ _ h => h)
  have HG : w.heap.size ≤ (w1.drewN nq).heap.size := F1.out.size
  have H2 := Lib.hid r2
  clear r2 t2 hx1 e0 e1 e2 e3 F1
  generalize (w1.drewN nq).heap.size = g at *
  clear hx
  go_wp2_with fail
  refine (play_any w w2 g none m [] A1 c1 L1 R1.out F2.out HG (fun _ e => by cases e) H2.out).mono ?_
  rintro e w3 ⟨rfl, b, s3⟩
  have H3 := Lib.hid s3
  have F3 : Hid (Fresh w w3) := F2.out.trans s3.touch (fun k hk hf => by rcases hf with e | e; (have : k = g := e; omega); cases e)
  have G3 : g < w3.heap.size := s3.ring.lt
  have B3 : Hid (∀ k, b = some k → w2.heap.size ≤ k ∧ k < w3.heap.size) := fun k hk => ⟨by rcases s3.hb k hk with e | e; cases e; exact e, s3.ring.ltb k hk⟩
  have S2 := F2.out.size
  have gl2 := H2.out.lt
  generalize playF m [] L1 30 = Q at *
  clear s3 H2 F2
  go_wp2_with fail
  refine (ringInt_clone g b m Q w3 H3.out.ring).mono ?_
  rintro e w4 ⟨gp, bp, rfl, rp4, t4, hgp, hbp⟩
  have P4 := Lib.hid rp4
  have BP := Lib.hid hbp
  have H4 := Lib.hid (H3.out.ring.touch t4 (fun h => h) (fun _ _ h => h))
  have F4 := Lib.hid (F3.out.trans t4 (fun _ _ h => h))
  have S4 := t4.size
  have glp := rp4.lt
  have BP4 : Hid (∀ k, bp = some k → k < w4.heap.size) := rp4.ltb
  clear rp4 t4 hbp H3 F3
  go_wp2_with fail
  refine (ringInt_clone g b m Q w4 H4.out).mono ?_
  rintro e w5 ⟨gq, bq, rfl, rq5, t5, hgq, hbq⟩
  have Q5 := Lib.hid rq5
  have BQ := Lib.hid hbq
  have H5 := Lib.hid (H4.out.touch t5 (fun h => h) (fun _ _ h => h))
  have P5 := Lib.hid (P4.out.touch t5 (fun h => h) (fun _ _ h => h))
  have F5 := Lib.hid (F4.out.trans t5 (fun _ _ h => h))
  have S5 := t5.size
  have glq := rq5.lt
  have BQ5 : Hid (∀ k, bq = some k → k < w5.heap.size) := rq5.ltb
  clear rq5 t5 hbq H4 F4 P4
  go_wp2_with fail
  refine (play_any w w5 g b m Q A2 c2 L2 R2.out F5.out HG (fun k hk => by have := B3.out k hk; omega) H5.out).mono ?_
  rintro e w6 ⟨rfl, b6, s6⟩
  have H6 := Lib.hid s6.ring
  have P6 := Lib.hid (P5.out.touch s6.touch (fun hf => by rcases hf with e | e; omega; (have := B3.out _ e; omega)) (fun k hk hf => by have := BP.out k hk; have := BP4.out k hk; rcases hf with e | e; omega; (have := B3.out _ e; omega)))
  have Q6 := Lib.hid (Q5.out.touch s6.touch (fun hf => by rcases hf with e | e; omega; (have := B3.out _ e; omega)) (fun k hk hf => by have := BQ.out k hk; have := BQ5.out k hk; rcases hf with e | e; omega; (have := B3.out _ e; omega)))
  have F6 : Hid (Fresh w w6) := F5.out.trans s6.touch (fun k hk hf => by rcases hf with e | e; omega; (have := B3.out _ e; omega))
  have B6 : Hid (∀ k, b6 = some k → (w2.heap.size ≤ k ∧ k < w3.heap.size) ∨ (w5.heap.size ≤ k ∧ k < w6.heap.size)) := fun k hk => by
    have := s6.ring.ltb k hk
    rcases s6.hb k hk with e | e
    · exact .inl (B3.out k e)
    · exact .inr ⟨e, this⟩
  have S6 := s6.touch.size
  clear s6 H5 F5 P5 Q5
  go_wp2_with fail
  refine (play_any w w6 gq bq m Q A3 c3 L3 R3.out F6.out (by omega) (fun k hk => by have := BQ.out k hk; omega) Q6.out).mono ?_
  rintro e w7 ⟨rfl, b7, s7⟩
  have Q7 := Lib.hid s7.ring
  have H7 := Lib.hid (H6.out.touch s7.touch (fun hf => by rcases hf with e | e; omega; (have := BQ.out _ e; omega)) (fun k hk hf => by have := B6.out k hk; rcases hf with e | e; omega; (have := BQ.out _ e; have := BQ5.out _ e; omega)))
  have P7 := Lib.hid (P6.out.touch s7.touch (fun hf => by rcases hf with e | e; omega; (have := BQ.out _ e; omega)) (fun k hk hf => by have := BP.out k hk; have := BP4.out k hk; rcases hf with e | e; omega; (have := BQ.out _ e; omega)))
  have F7 : Hid (Fresh w w7) := F6.out.trans s7.touch (fun k hk hf => by rcases hf with e | e; omega; (have := BQ.out _ e; omega))
  have B7 : Hid (∀ k, b7 = some k → (w4.heap.size ≤ k ∧ k < w5.heap.size) ∨ (w6.heap.size ≤ k ∧ k < w7.heap.size)) := fun k hk => by
    have := s7.ring.ltb k hk
    rcases s7.hb k hk with e | e
    · exact .inl ⟨BQ.out k e, BQ5.out k e⟩
    · exact .inr ⟨e, this⟩
  have S7 := s7.touch.size
  generalize playF m Q L3 30 = QQ at *
  clear s7 H6 F6 P6 Q6
  go_wp2_with fail
  refine (play_any w w7 gp bp m Q A2 c2 L2 R2.out F7.out (by omega) (fun k hk => by have := BP.out k hk; omega) P7.out).mono ?_
  rintro e w8 ⟨rfl, b8, s8⟩
  have P8 := Lib.hid s8.ring
  have H8 := Lib.hid (H7.out.touch s8.touch (fun hf => by rcases hf with e | e; omega; (have := BP.out _ e; omega)) (fun k hk hf => by have := B6.out k hk; rcases hf with e | e; omega; (have := BP.out _ e; have := BP4.out _ e; omega)))
  have Q8 := Lib.hid (Q7.out.touch s8.touch (fun hf => by rcases hf with e | e; omega; (have := BP.out _ e; have := BP4.out _ e; omega)) (fun k hk hf => by have := B7.out k hk; rcases hf with e | e; omega; (have := BP.out _ e; have := BP4.out _ e; omega)))
  have F8 : Hid (Fresh w w8) := F7.out.trans s8.touch (fun k hk hf => by rcases hf with e | e; omega; (have := BP.out _ e; omega))
  have OR : Hid (OwnInt w w8 g m (playF m Q L2 30)) := ⟨b6, H8.out, F8.out, HG, fun k hk => by have := B6.out k hk; omega⟩
  have OP : Hid (OwnInt w w8 gp m (playF m Q L2 30)) := ⟨b8, P8.out, F8.out, by omega, fun k hk => by
    rcases s8.hb k hk with e | e
    · have := BP.out k e; omega
    · omega⟩
  have OQ : Hid (OwnInt w w8 gq m QQ) := ⟨b7, Q8.out, F8.out, by omega, fun k hk => by have := B7.out k hk; omega⟩
  have hlA := s8.ring.len_le
  generalize playF m Q L2 30 = QA at *
  clear H8 P8 Q8 F8 s8 H7 F7 P7 Q7 S7 S6 S5 S4 S2 BP BP4 BQ BQ5 B3 B6 B7 R1 R2 R3 hgp hgq gl2 glp glq HG G3
  go_wp2_with fail
  refine (ownInt_all g m QA w w8 OR.out).mono ?_
  rintro e w9 ⟨A9, c9, rfl, s9, t9, _⟩
  have OR9 := Lib.hid (OR.out.then_ t9)
  have OP9 := Lib.hid (OP.out.then_ t9)
  have OQ9 := Lib.hid (OQ.out.then_ t9)
  clear t9 OR OP OQ
  go_wp2_with fail
  refine (ownInt_all gp m QA w w9 OP9.out).mono ?_
  rintro e w10 ⟨A10, c10, rfl, s10, t10, _⟩
  have OR10 := Lib.hid (OR9.out.then_ t10)
  have OP10 := Lib.hid (OP9.out.then_ t10)
  have OQ10 := Lib.hid (OQ9.out.then_ t10)
  go_wp2_with fail
  refine (same_any A9 A10 c9 c10 QA QA w10 (s9.touch t10 (fun _ _ h => h)).rd s10.rd).mono ?_
  rintro e w11 ⟨rfl, t11⟩
  rw [decide_eq_true rfl]
  have OR11 := Lib.hid (OR10.out.then_ t11)
  have OP11 := Lib.hid (OP10.out.then_ t11)
  have OQ11 := Lib.hid (OQ10.out.then_ t11)
  clear s9 s10 t10 t11 OR9 OP9 OQ9 OR10 OP10 OQ10
  go_wp2_with fail
  obtain ⟨br, hr, _⟩ := OR11.out
  have HR := Lib.hid hr
  clear hr
  refine (ringInt_room g br m QA w11 HR.out).mono ?_
  rintro e w12 ⟨rfl, n12, rfl⟩
  have OR12 := Lib.hid (OR11.out.drewN n12)
  have OP12 := Lib.hid (OP11.out.drewN n12)
  have OQ12 := Lib.hid (OQ11.out.drewN n12)
  clear OR11 OP11 OQ11 HR
  generalize w11.drewN n12 = w12 at *
  go_wp2_with fail
  obtain ⟨bp', hr, _⟩ := OP12.out
  have HR := Lib.hid hr
  clear hr
  refine (ringInt_room gp bp' m QA w12 HR.out).mono ?_
  rintro e w13 ⟨rfl, n13, rfl⟩
  have OR13 := Lib.hid (OR12.out.drewN n13)
  have OQ13 := Lib.hid (OQ12.out.drewN n13)
  clear OR12 OP12 OQ12 HR
  generalize w12.drewN n13 = w13 at *
  go_wp2_with fail
  refine (ownInt_most gq m QQ w w13 OQ13.out).mono ?_
  rintro e w14 ⟨rfl, rfl⟩
  go_wp2_with fail
  refine (ownInt_most g m QA w w14 OR13.out).mono ?_
  rintro e w15 ⟨rfl, rfl⟩
  go_wp2
  go_ret
  exact ⟨rfl, OR13.out.fresh.below (Nat.le_refl _) (fun _ _ h => h)⟩

theorem ringClones.walk (v : Value) (w : World) {H : Type} {enc : TypeId × Value → H} {base : Nat} {d : DataW H} {p : List MemPlace} (hv : Value.okWide Try.prog w .any base 44 v) (h : DataW.Trod enc Try.prog w 0 (fun _ => true) true 44 v d p) :
    Calls Try.prog 5 #[v] w fun e w' => e = .returned (.bool true) ∧ Below w.heap.size w w' := by
  obtain ⟨v0, v1, v2, v3, y0, y1, y2, y3, n, rfl, _, _, h0, h1, h2, h3⟩ := Go.Joins.open_agg4 Try.underlying44 (by kernel_rfl) (by kernel_rfl) hv h
  obtain ⟨x, e0, _, _⟩ := DataW.trod_int Try.underlying3 h0
  obtain ⟨A1, c1, L1, rfl, r1, _⟩ := open_rd_cell act4E Try.underlying42 (by kernel_rfl) dec_act4 h1
  obtain ⟨A2, c2, L2, rfl, r2, _⟩ := open_rd_cell act4E Try.underlying42 (by kernel_rfl) dec_act4 h2
  obtain ⟨A3, c3, L3, rfl, r3, _⟩ := open_rd_cell act4E Try.underlying42 (by kernel_rfl) dec_act4 h3
  injection e0 with e0
  subst e0
  have := and15_in x
  exact ringClones.core x (1 + bits .and .i64 x 15).toNat (by omega) (by omega) A1 A2 A3 c1 c2 c3 L1 L2 L3 w r1 r2 r3
end Go.Proofs.Ytfieckhhckfjiaa
