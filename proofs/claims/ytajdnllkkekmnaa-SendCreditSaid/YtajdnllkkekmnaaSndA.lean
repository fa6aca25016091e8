/-
  send.Send: what its short calls do.
-/
import Derived.Test.YtajdnllkkekmnaaSnd
import Derived.RegionTactic
import Derived.ChangeAlike
import Derived.Deep.QuietTactic
import Derived.BigQuiet
namespace Go.Proofs.Ytajdnllkkekmnaa
open Go.RowKit

/-- What a call of a sender leaves: the parts may lie in new memory. -/
def Grown (F : Nat → Prop) (w : World) (x : Nat) : Prop := F x ∨ w.heap.size ≤ x

theorem Grown.old {F : Nat → Prop} {w : World} {x : Nat} (h : F x) : Grown F w x := .inl h
theorem SendF.grown {p g : Nat} {b : Option Nat} {k : Nat} {A : Option Addr} {F : Nat → Prop} (h : SendF p g b k A F) (w : World) : SendF p g b k A (Grown F w) :=
  ⟨.inl h.p, .inl h.g, fun x e => .inl (h.b x e), .inl h.k, fun ad e => .inl (h.A ad e)⟩
theorem SendF.foot {p g : Nat} {b : Option Nat} {k : Nat} {A : Option Addr} {F : Nat → Prop} (h : SendF p g b k A F) (x : Nat) (hx : Foot g b x) : F x := by
  rcases hx with rfl | e
  · exact h.g
  · exact h.b x e

/-- A call of the row turns the row alone. -/
theorem SendIn.ringed {w w' : World} {p g : Nat} {b b' : Option Nat} {k : Nat} {A : Option Addr} {c : Nat} {st : Sd.S} (h : SendIn w p g b k A c st) {q : List ByteArray} (hr : RingStr w' g b' st.most q) (ht : Touch (Foot g b) w w') : SendIn w' p g b' k A c { st with q := q } :=
  ⟨ht.blk h.blk (fun hf => by rcases hf with e | e; exact h.ne_g e; exact h.ne_b e), hr,
   h.map.touch ht (fun hf => by rcases hf with e | e; exact h.k_ne_g e; exact h.k_ne_b e),
   h.ag.touch ht (fun ad ha hf => by rcases hf with e | e; exact h.A_ne_g ad ha e; exact h.A_ne_b ad ha e)⟩

theorem sput_any (p : Nat) (F : Nat → Prop) (st : Sd.S) (v : ByteArray) (w : World) (h : SendAt w p F st) :
    Calls Try.prog 8 #[.pointer (some ⟨p, 0, none⟩), .string v] w fun e w' => e = .returned (.int .i64 (if st.q.length < st.most then 0 else 7)) ∧ SendAt w' p (Grown F w) (Sd.put st v) ∧ Touch F w w' := by
  obtain ⟨g, b, k, A, c, h1, hF⟩ := h.open_
  have c7 : w.cell? ⟨p, 7, none⟩ = some (.pointer (some ⟨g, 0, none⟩)) := h1.blk.cell 7
  have HR := Lib.hid (ringStr_put g b st.most st.q v w h1.ring)
  have HP : Hid (Sd.put st v = { st with q := if st.q.length < st.most then st.q ++ [v] else st.q }) := by
    unfold Hid Sd.put
    split <;> rfl
  have HI := Lib.hid h1
  have HF := Lib.hid hF
  clear h h1 hF
  generalize (if st.q.length < st.most then (0 : Int) else 7) = z at *
  go_enter Try.func8, Try.ntmps8
  go_wp2_with fail
  refine HR.out.mono ?_
  rintro e w1 ⟨rfl, b', hr, ht, hb⟩
  have HX : Hid (SendAt w1 p (Grown F w) (Sd.put st v) ∧ Touch F w w1) := by
    refine ⟨?_, ht.mono fun x _ hx => HF.out.foot x hx⟩
    rw [HP.out]
    refine SendAt.mk' (HI.out.ringed hr ht) ⟨.inl HF.out.p, .inl HF.out.g, fun x e => ?_, .inl HF.out.k, fun ad e => .inl (HF.out.A ad e)⟩
    rcases hb x e with e2 | e2
    · exact .inl (HF.out.b x e2)
    · exact .inr e2
  clear hr ht hb HI HF HR c7 HP
  go_wp2
  go_ret
  exact ⟨rfl, HX.out.1, HX.out.2⟩

theorem sopn_any (p : Nat) (F : Nat → Prop) (st : Sd.S) (x : Int) (w : World) (h : SendAt w p F st) :
    Calls Try.prog 9 #[.pointer (some ⟨p, 0, none⟩), .int .u32 x] w fun e w' => e = .returned (.tuple #[]) ∧ SendAt w' p F (Sd.opn st x) ∧ Touch F w w' := by
  obtain ⟨g, b, k, A, c, h1, hF⟩ := h.open_
  have c1 : w.cell? ⟨p, 1, none⟩ = some (.int .u32 st.a) := h1.blk.cell 1
  have c2 : w.cell? ⟨p, 2, none⟩ = some (.int .u32 st.ms) := h1.blk.cell 2
  have HI := Lib.hid h1
  have HF := Lib.hid hF
  clear h h1 hF
  obtain ⟨T, hT⟩ : ∃ T : Sd.S, T = { st with ms := x % 16777216 } := ⟨_, rfl⟩
  have HTe := Lib.hid hT
  have HO : Hid (Sd.opn st x = if (x - st.a) % 16777216 ≤ 8388608 ∧ (st.ms - st.a) % 16777216 ≤ (x - st.a) % 16777216 then T else st) := by rw [hT]; rfl
  clear hT
  obtain ⟨a, ha⟩ : ∃ a, a = st.a := ⟨_, rfl⟩
  obtain ⟨ms, hms⟩ : ∃ m, m = st.ms := ⟨_, rfl⟩
  rw [← ha] at c1 HO
  rw [← hms] at c2 HO
  clear ha hms
  go_enter Try.func9, Try.ntmps9
  go_wp2_with fail
  refine (to_any a x w).mono ?_
  rintro e w1 ⟨rfl, rfl⟩
  generalize hd : (x - a) % 16777216 = d at *
  simp only
  by_cases h8 : d ≤ 8388608
  · go_upto_region 1 with (fail)
    go_quiet ((go_at_call 23; refine Calls.quiet_of_same (to_any _ _ _)))
    have I2 := Lib.hid (HI.out.drewN nq)
    have T2 : Hid (Touch F w1 (w1.drewN nq)) := (Touch.refl _ _).drewN _
    clear c1 c2 HI
    generalize w1.drewN nq = w2 at *
    generalize (ms - a) % 16777216 = f at *
    by_cases hf : f ≤ d
    · have HE : Hid (Sd.opn st x = { st with ms := x % 16777216 }) := by unfold Hid; rw [HO.out, if_pos ⟨h8, hf⟩, HTe.out]
      have fz := I2.out.blk.frozen 2
      have c2 : w2.cell? ⟨p, 2, none⟩ = some (.int .u32 st.ms) := I2.out.blk.cell 2
      have HX : Hid (SendAt (w2.setCell ⟨p, 2, none⟩ (.int .u32 (x % 16777216))) p F (Sd.opn st x)) := by
        unfold Hid
        rw [HE.out]
        exact SendAt.mk' (I2.out.scalar 2 _ rfl rfl rfl rfl rfl) HF.out
      have HT : Hid (Touch F w1 (w2.setCell ⟨p, 2, none⟩ (.int .u32 (x % 16777216)))) := T2.out.st HF.out.p
      clear HO HE I2 T2
      go_wp2_with fail
      refine (low_any x w2).mono ?_
      rintro e w3 ⟨rfl, rfl⟩
      simp only
      go_wp2
      go_end0
      exact ⟨rfl, HX.out, HT.out⟩
    · have HE : Hid (Sd.opn st x = st) := by unfold Hid; rw [HO.out, if_neg (fun hh => hf hh.2)]
      go_wp2
      go_end0
      exact ⟨rfl, by rw [HE.out]; exact SendAt.mk' I2.out HF.out, T2.out⟩
  · have HE : Hid (Sd.opn st x = st) := by unfold Hid; rw [HO.out, if_neg (fun hh => h8 hh.1)]
    go_upto_region 1 with (fail)
    go_quiet (fail)
    go_wp2
    go_end0
    exact ⟨rfl, by rw [HE.out]; exact SendAt.mk' (HI.out.drewN _) HF.out, (Touch.refl _ _).drewN _⟩

theorem slen_q {g : Nat} {b : Option Nat} {most : Nat} {q : List ByteArray} {w : World} (h : RingStr w g b most q) {m : Nat} (hm : q.length = m) (n : Nat) :
    Calls Try.prog 26 #[.pointer (some ⟨g, 0, none⟩)] (w.drewN n) fun e w' => e = .returned (.int .i64 m) ∧ w' = w.drewN n := by
  rw [← hm]
  exact ringStr_len g b most q _ (h.same rfl)

theorem slacks_any (p : Nat) (F : Nat → Prop) (st : Sd.S) (w : World) (h : SendAt w p F st) :
    Calls Try.prog 12 #[.pointer (some ⟨p, 0, none⟩)] w fun e w' => e = .returned (.bool (decide (0 < st.q.length) && (st.s == st.ms))) ∧ ∃ n, w' = w.drewN n := by
  obtain ⟨g, b, k, A, c, h1, hF⟩ := h.open_
  have c0 : w.cell? ⟨p, 0, none⟩ = some (.int .u32 st.s) := h1.blk.cell 0
  have c2 : w.cell? ⟨p, 2, none⟩ = some (.int .u32 st.ms) := h1.blk.cell 2
  have c7 : w.cell? ⟨p, 7, none⟩ = some (.pointer (some ⟨g, 0, none⟩)) := h1.blk.cell 7
  have hbq := h1.ring.len_le
  obtain ⟨q, hq⟩ : ∃ q, st.q.length = q := ⟨_, rfl⟩
  have HR := Lib.hid (fun n => slen_q h1.ring hq n)
  rw [hq] at hbq ⊢
  clear h h1 hF hq
  generalize st.s = s at *
  generalize st.ms = ms at *
  go_enter Try.func12, Try.ntmps12
  by_cases h0 : 0 < q
  · have h0i : (0 : Int) < (q : Int) := by omega
    rw [decide_eq_true h0]
    go_upto_region 1 with (fail)
    go_quiet ((go_at_call 26; refine Calls.quiet_of_same (HR.out _)))
    go_wp2
    go_ret
    exact ⟨by simp, _, rfl⟩
  · have h0i : ¬ (0 : Int) < (q : Int) := by omega
    rw [decide_eq_false h0]
    go_upto_region 1 with (fail)
    go_quiet ((go_at_call 26; refine Calls.quiet_of_same (HR.out _)))
    go_wp2
    go_ret
    exact ⟨rfl, _, rfl⟩

set_option maxRecDepth 4000 in
theorem sidle_any (p : Nat) (F : Nat → Prop) (st : Sd.S) (w : World) (h : SendAt w p F st) :
    Calls Try.prog 18 #[.pointer (some ⟨p, 0, none⟩)] w fun e w' => e = .returned (.bool (decide (st.q.length = 0) && decide (st.m.length = 0))) ∧ ∃ n, w' = w.drewN n := by
  obtain ⟨g, b, k, A, c, h1, hF⟩ := h.open_
  have c7 : w.cell? ⟨p, 7, none⟩ = some (.pointer (some ⟨g, 0, none⟩)) := h1.blk.cell 7
  have c8 : w.cell? ⟨p, 8, none⟩ = some (.map (some k)) := h1.blk.cell 8
  have hbq := h1.ring.len_le
  obtain ⟨q, hq⟩ : ∃ q, st.q.length = q := ⟨_, rfl⟩
  have HR := Lib.hid (ringStr_len g b st.most st.q w h1.ring)
  have hln : (Builtin.len_ #[51] 3 #[.map (some k)]).run Try.prog w = .ok (.int .i64 (((Sd.mapV st.m).length : Nat) : Int)) w := len_map Try.underlying51 h1.map
  rw [Sd.mapV_len] at hln
  rw [hq] at hbq HR ⊢
  clear h h1 hF hq
  generalize st.m.length = m at *
  go_enter Try.func18, Try.ntmps18
  by_cases h0 : q = 0
  · have h0i : ((q : Int) == 0) = true := by simp [h0]
    rw [decide_eq_true h0]
    clear h0
    go_wp2_with fail
    refine HR.out.mono ?_
    rintro e w1 ⟨rfl, rfl⟩
    simp only
    go_wp2
    go_ret
    exact ⟨by by_cases hm : m = 0 <;> simp [hm], 0, rfl⟩
  · have h0i : ((q : Int) == 0) = false := by simp [h0]
    rw [decide_eq_false h0]
    go_wp2_with fail
    refine HR.out.mono ?_
    rintro e w1 ⟨rfl, rfl⟩
    simp only
    go_wp2
    go_ret
    exact ⟨rfl, 0, rfl⟩
end Go.Proofs.Ytajdnllkkekmnaa
