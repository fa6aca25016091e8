/-
  recv.Recv: missing: a loop over a map.
-/
import Derived.Test.YtngljhpplmbglaaRcvE
import Derived.Test.YtngljhpplmbglaaSpanO
import Derived.Deep.RegionHeld3
namespace Go.Proofs.Ytngljhpplmbglaa
open Go.RowKit

/-- What is missing: the numbers counted from R on. -/
def Rv.Miss (st : Rv.S) (S : List (Int × Int)) : Prop := Sp.Good S ∧ ∀ n, Sp.mem S n ↔ 0 ≤ n ∧ n < (st.h - st.r) % 16777216 ∧ ∀ q ∈ st.m, (q.1 - st.r) % 16777216 ≠ n

theorem Rv.Miss.uniq {st : Rv.S} {S T : List (Int × Int)} (h : Rv.Miss st S) (h' : Rv.Miss st T) : S = T := Sp.Canon.uniq h.1.1 h'.1.1 fun n => by rw [h.2, h'.2]
theorem Rv.Miss.len {st : Rv.S} {S : List (Int × Int)} (h : Rv.Miss st S) (hd : (st.h - st.r) % 16777216 ≤ 100000) : S.length ≤ 100000 := by
  have := Sp.Canon.len_le h.1.1 0 100000 (by omega) (fun n hn => by have := (h.2 n).1 hn; omega)
  omega

set_option maxHeartbeats 4000000 in
set_option maxRecDepth 4000 in
theorem rmissing_any (p : Nat) (F : Nat → Prop) (st : Rv.S) (w : World) (h : RecvAt w p F st) (hd : (st.h - st.r) % 16777216 ≤ 100000) :
    Calls Try.prog 40 #[.pointer (some ⟨p, 0, none⟩)] w fun e w' => ∃ B d S, e = .returned (.slice B S.length d) ∧ Mine spanE w w' B d S ∧ Rv.Miss st S := by
  obtain ⟨k, A, c, G, d, h1, hF, hL⟩ := h
  have HI := Lib.hid h1
  clear h1 hF hL
  have KEEP : Hid (∀ W, Fresh w W → W.cell? ⟨p, 0, none⟩ = some (.int .u32 st.r) ∧ W.cell? ⟨p, 1, none⟩ = some (.int .u32 st.h)) := fun W hf => ⟨(HI.out.old hf).blk.cell 0, (HI.out.old hf).blk.cell 1⟩
  obtain ⟨dd, hdd⟩ : ∃ dd, (st.h - st.r) % 16777216 = dd := ⟨_, rfl⟩
  have hd0 : 0 ≤ dd := by omega
  have HTO := Lib.hid (to_any st.r st.h)
  rw [hdd] at HTO hd
  have HDD := Lib.hid hdd
  clear hdd
  have hf1 : Fresh w w.drew := (Touch.refl _ _).drew
  have R1 : Hid (∀ W : World, Rd spanE (W.alloc (.cells #[.int .i64 0, .int .i64 dd] 97)) (some ⟨W.heap.size, 0, none⟩) 1 [(0, dd)]) := fun W => Sl.rd (Sl.lit spanE W _ rfl #[.int .i64 0, .int .i64 dd] [(0, dd)] rfl 1 rfl (by decide))
  have HOF : Hid (∀ W A c, Rd spanE W A c [(0, dd)] → Calls Try.prog 51 #[.slice A 1 c] W fun e w' => ∃ B d S, e = .returned (.slice B S.length d) ∧ Mine spanE W w' B d S ∧ Sp.Good S ∧ ∀ n, Sp.mem S n ↔ 0 ≤ n ∧ n < dd) := fun W A c hr => (of_any A c [(0, dd)] W hr (by simp)).mono fun e w' ⟨B, d, S, e1, m, ho, _⟩ => ⟨B, d, S, e1, m, ho.good, fun n => by
    rw [ho.mem_small (fun x hx => by rw [List.mem_singleton.1 hx]; simp only; omega), mem_one]
    rfl⟩
  go_enter Try.func40, Try.ntmps40
  go_wp2_with fail
  go_region_held3 (fun wx => wx.cell? ⟨p, 0, none⟩ = some (.int .u32 st.r) ∧ wx.cell? ⟨p, 1, none⟩ = some (.int .u32 st.h))
    (first
      | with_reducible exact KEEP.out _ (by with_reducible assumption)
      | exact KEEP.out _ (((Touch.refl (fun _ => False) w).alloc _).drew)
      | with_reducible assumption)
    (first
      | (go_simp; go_at_call 20; with_reducible refine (HTO.out _).mono ?_; rintro e' w' ⟨rfl, rfl⟩)
      | (go_simp; go_at_call 51; refine (HOF.out ((w.alloc (.cells #[.int .i64 0, .int .i64 dd] 97)).drew) _ _ (R1.out w)).mono ?_; rintro e' w' ⟨B', d', S', rfl, hM, hG, hS⟩; have hf2 : Fresh w w' := (((Touch.refl (fun _ => False) w).alloc _).drew).trans hM.fresh (fun _ _ h => h)))
  all_goals
    have M2 : Hid (Mine spanE w w' B' d' S') := hM.back (((Touch.refl (fun _ => False) w).alloc _).drew)
    have HS2 : Hid (Sp.Good S' ∧ ∀ n, Sp.mem S' n ↔ 0 ≤ n ∧ n < dd ∧ ∀ q ∈ ([] : List Int), (q - st.r) % 16777216 ≠ n) := ⟨hG, fun n => by rw [hS]; simp⟩
    have I2 := Lib.hid (HI.out.old hf2)
    have c4 : w'.cell? ⟨p, 4, none⟩ = some (.map (some k)) := I2.out.blk.cell 4
    clear hM hG hS R1 HOF HTO hf1
    go_wp2_with (first
      | (at_range; refine wpList_rangeM rfl rfl rfl I2.out.map Try.underlying65 ?_; intro w3 hit hf3)
      | go_in)
    go_frame
    have HIT := Lib.hid hit
    have M3 := Lib.hid (M2.out.old hf3)
    obtain ⟨r, hr⟩ : ∃ r, r = w'.heap.size := ⟨_, rfl⟩
    rw [← hr] at HIT ⊢
    have hrw : w.heap.size ≤ r := by have := hf2.size; omega
    clear hit hf3 M2 I2 c4 hf2 hr
    go_loopw [3] (fun s3 wr => ∃ (D : List Int) (B : Option Addr) (d : Nat) (S : List (Int × Int)), s3 = .slice B S.length d ∧ Hid (IterAt numK wr r k (Rv.bufV st.m) D) ∧ Hid (Mine spanE w wr B d S) ∧ Hid (Sp.Good S ∧ ∀ n, Sp.mem S n ↔ 0 ≤ n ∧ n < dd ∧ ∀ q ∈ D, (q - st.r) % 16777216 ≠ n) ∧ Hid (∀ q ∈ D, ∃ q2 ∈ st.m, q2.1 = q)) (fun _ wr => wr.rangeLeft k r)
    case atStart => exact ⟨[], B', d', S', rfl, HIT, M3, HS2, fun _ h => by cases h⟩
    case round =>
      clear HIT M3 HS2
      obtain ⟨D, B, d3, S, rfl, HIT, HM, HS, HITD⟩ := hrel
      go_wp2_with (first
        | (at_next; refine wpList_nextM rfl rfl rfl HIT.out ?_ ?_)
        | go_in)
      · intro hdone
        have HX : Hid (Rv.Miss st S) := ⟨HS.out.1, fun n => by
          rw [HS.out.2 n, HDD.out]
          constructor
          · rintro ⟨h1, h2, h3⟩
            exact ⟨h1, h2, fun q hq => h3 q.1 (hdone q.1 (.string q.2) (List.mem_map.2 ⟨q, hq, rfl⟩))⟩
          · rintro ⟨h1, h2, h3⟩
            refine ⟨h1, h2, fun q hq => ?_⟩
            obtain ⟨q2, hq2, e⟩ := HITD.out q hq
            have := h3 q2 hq2
            rwa [e] at this⟩
        clear hdone
        go_wp2
        go_ret
        exact ⟨B, d3, S, rfl, HM.out, HX.out⟩
      · intro key qv w4 hq hqD hit4 ht4 hlt hen
        have IT4 := Lib.hid hit4
        have hrS : ∀ x, x = r → w.heap.size ≤ x := fun x e => by omega
        have M4 : Hid (Mine spanE w w4 B d3 S) := HM.out.own ht4 hrS (fun ad e e2 => by
          obtain ⟨_, cs, hb, _⟩ := HM.out.sl.2.2.2 ad e
          obtain ⟨es, cl, si, se, c0, _, _, _, _, hr4, _⟩ := HIT.out.ex
          unfold Blk at hb
          rw [e2, hr4] at hb
          cases hb)
        have F4 := Lib.hid M4.out.fresh
        have HLT := Lib.hid hlt
        obtain ⟨q2, hq2, hqe⟩ := List.mem_map.1 hq
        have HQ2 : Hid (q2 ∈ st.m ∧ q2.1 = key) := ⟨hq2, by have := congrArg Prod.fst hqe; exact this⟩
        have hen2 : (Instr.entry (.pointer (some ⟨r, 0, none⟩))).run Try.prog w4 = .ok (.tuple #[.int .u32 key, qv]) w4 := hen
        have c0 : w4.cell? ⟨p, 0, none⟩ = some (.int .u32 st.r) := (HI.out.old F4.out).blk.cell 0
        have HMT : Hid (∀ W, Fresh w4 W → W.rangeLeft k r = w4.rangeLeft k r) := fun W hf => IT4.out.left_eq hf (fun h => h) (fun h => h)
        have HIT4 : Hid (∀ W, Fresh w4 W → IterAt numK W r k (Rv.bufV st.m) (key :: D)) := fun W hf => IT4.out.touch hf (fun h => h) (fun h => h)
        have HTO := Lib.hid (to_any st.r key)
        obtain ⟨at_, hat⟩ : ∃ a, (key - st.r) % 16777216 = a := ⟨_, rfl⟩
        have hatb : 0 ≤ at_ ∧ at_ < 16777216 := by omega
        rw [hat] at HTO
        have HAT := Lib.hid hat
        have hSl : S.length ≤ 1000000 := by
          have := Sp.Canon.len_le HS.out.1.1 0 100000 (by omega) (fun n hn => by have := (HS.out.2 n).1 hn; omega)
          omega
        clear hit4 ht4 hlt hen hat hq hqD hq2 hqe HM HIT hrS IT4
        go_wp2_with fail
        refine (HTO.out w4).mono ?_
        rintro e w5 ⟨rfl, rfl⟩
        simp only
        have HDR := Lib.hid (drop_any B d3 S (at_, at_ + 1) w5 M4.out.sl.rd HS.out.1 hSl)
        go_wp2_with fail
        refine HDR.out.mono ?_
        rintro e w6 ⟨B6, d6, S6, rfl, M6, G6, h6⟩
        have F6 := Lib.hid M6.fresh
        have M7 := Lib.hid (M6.back F4.out)
        have HS7 : Hid (Sp.Good S6 ∧ ∀ n, Sp.mem S6 n ↔ 0 ≤ n ∧ n < dd ∧ ∀ q ∈ key :: D, (q - st.r) % 16777216 ≠ n) := ⟨G6, fun n => by
          rw [h6, Sp.near_id _ (by simp only; omega) (by simp only; omega) (by simp only; omega) (by simp only; omega), HS.out.2 n]
          unfold Sp.In
          simp only [List.mem_cons, forall_eq_or_imp, HAT.out]
          constructor
          · rintro ⟨⟨h1, h2, h3⟩, h4⟩
            exact ⟨h1, h2, by omega, h3⟩
          · rintro ⟨h1, h2, h3, h4⟩
            exact ⟨⟨h1, h2, h4⟩, by omega⟩⟩
        have HD7 : Hid (∀ q ∈ key :: D, ∃ q2 ∈ st.m, q2.1 = q) := fun q hq => by
          rcases List.mem_cons.1 hq with rfl | hq
          · exact ⟨q2, HQ2.out.1, HQ2.out.2⟩
          · exact HITD.out q hq
        clear M6 G6 h6 HDR M4 HS HITD
        simp only
        go_wp2
        go_roundw
        case rel => exact ⟨key :: D, B6, d6, S6, rfl, HIT4.out _ F6.out, M7, HS7, HD7⟩
        case measure => rw [HMT.out _ F6.out]; exact HLT.out
end Go.Proofs.Ytngljhpplmbglaa
