/-
  rules: what is done with a unit, and which requests may be.
-/
import Derived.Test.YtkmegkjkbalooaaTy
import Derived.Test.YtkmegkjkbalooaaPair
namespace Go.Proofs.Ytkmegkjkbalooaa
open Go.RowKit

theorem placeI : ∃ i, Try.prog.info? 3 = some i ∧ i.size = 1 := by
  obtain ⟨i, h1, _, h2, _⟩ := info_parts Try.infoInt
  exact ⟨i, h1, h2⟩
def placeK : KT Try.prog (Int × Int) := KT.pair 96 3 .i64 Try.underlying96 Try.underlying3 placeI

namespace Ru
abbrev Tbl := List ((Int × Int) × Int)
def row (m : Tbl) (s x : Int) (ks : List Int) : Tbl := ks.foldl (fun m k => mset m (s, k) x) m
def lift (m : Tbl) : MList (Int × Int) := m.map fun p => (p.1, Value.int .i64 p.2)
def tblS (m : Tbl) (s : Int) : Tbl :=
  let m := row m s 1 [1, 13, 14]
  let m := if s = 2 then m else row m s 1 [3]
  let m := if 5 ≤ s then row (row m s 1 [5]) s 4 [4, 7] else m
  if 7 ≤ s then row m s 1 [9] else m
def tblTo : Nat → Tbl
  | 0 => []
  | k + 1 => tblS (tblTo k) ((k : Int) + 1)
def tbl : Tbl :=
  row (row (row (row (row (row (row (row (tblTo 10) 1 3 [2, 5, 6, 8, 9, 10, 11, 12, 15]) 1 2 [7]) 2 1 [2, 7]) 3 2 [2, 4, 5, 6, 7, 8, 9, 10, 11, 12, 15]) 4 1 [4, 7]) 5 1 [6]) 7 1 [15]) 10 1 [8, 10, 11, 12]
def reqS (m : Tbl) (s : Int) : Tbl :=
  let m := row m s 1 [8, 9, 10, 11]
  if s = 1 ∨ s = 4 then m else row m s 1 [3]
def reqTo : Nat → Tbl
  | 0 => []
  | k + 1 => reqS (reqTo k) ((k : Int) + 1)
def req : Tbl :=
  row (row (row (row (row (row (row (reqTo 10) 1 1 [1]) 4 1 [1]) 3 1 [2]) 6 1 [5]) 8 1 [4, 6]) 9 1 [6]) 10 1 [4, 7]
def of_ (s k : Int) : Int := (mget tbl (s, k)).getD 0
def may (s k : Int) : Bool := (mget req (s, k)).getD 0 == 1
theorem row_lift (m : Tbl) (s x : Int) (ks : List Int) : ks.foldl (fun m k => mset m (s, k) (Value.int .i64 x)) (lift m) = lift (row m s x ks) := by
  unfold row
  induction ks generalizing m with
  | nil => rfl
  | cons k ks ih =>
    simp only [List.foldl_cons]
    rw [← ih]
    congr 1
    exact mset_lift (fun n => Value.int .i64 n) m (s, k) x
theorem lift_get (m : Tbl) (p : Int × Int) : (mget (lift m) p).getD (.int .i64 0) = .int .i64 ((mget m p).getD 0) := by
  unfold lift
  rw [mget_lift]
  cases mget m p <;> rfl
end Ru

theorem Rd.map_ne {α κ : Type} [DecidableEq κ] {P : Program} {K : KT P κ} {E : El α} {w : World} {A : Option Addr} {c b : Nat} {l : List α} {m : MList κ} (h : Rd E w A c l) (hm : MapAt K w b m) (hl : 0 < l.length) : ∀ ad, A = some ad → ad.block ≠ b := by
  intro ad ha e
  have h0 := h.2.2.2 ad ha 0 _ (List.getElem?_eq_getElem (show 0 < (E.all l).length by rw [E.all_len]; exact Nat.mul_pos hl E.pos))
  obtain ⟨_, es, cl, hb, _⟩ := hm
  subst e
  have hb2 : w.heap[(ad.add 0).block]? = some (.map es cl) := by rw [block_of_add]; exact hb
  simp [World.cell?, hb2] at h0

set_option maxHeartbeats 1000000 in
theorem row_any (b c : Nat) (A : Option Addr) (m : Ru.Tbl) (s x : Int) (ks : List Int) (w : World) (hm : MapAt placeK w b (Ru.lift m)) (hr : Rd intE w A c ks) :
    Calls Try.prog 63 #[.map (some b), .int .i64 s, .int .i64 x, .slice A ks.length c] w fun e w' => e = .returned (.tuple #[]) ∧ MapAt placeK w' b (Ru.lift (Ru.row m s x ks)) ∧ Touch (· = b) w w' := by
  have hlc := hr.1
  have hcm := hr.2.1
  unfold maxLen at hcm
  have HR := Lib.hid hr
  have HM := Lib.hid hm
  clear hr hm
  go_enter Try.func63, Try.ntmps63
  go_wp2_with fail
  go_loopw [12] (fun i wr => ∃ k : Nat, k ≤ ks.length ∧ i = .int .i64 k ∧ MapAt placeK wr b (Ru.lift (Ru.row m s x (ks.take k))) ∧ Touch (· = b) w wr) (fun i _ => ks.length - (intOf i).toNat)
  case atStart => exact ⟨0, by omega, rfl, HM.out, Touch.refl _ _⟩
  case round =>
    obtain ⟨k, hk, rfl, hmr, ht⟩ := hrel
    by_cases hlt : k < ks.length
    · obtain ⟨g, o, rfl, hg, hc⟩ := (HR.out.touch ht (fun ad ha hl => HR.out.map_ne HM.out (by omega) ad ha)).int_at k hlt
      have hstep : Ru.row m s x (ks.take (k + 1)) = mset (Ru.row m s x (ks.take k)) (s, ks.getD k 0) x := by
        unfold Ru.row
        rw [List.take_succ_eq_append_getElem hlt, List.foldl_append]
        simp [List.getD, List.getElem?_eq_getElem hlt]
      have HS := Lib.hid hstep
      have HMR := Lib.hid hmr
      have HT := Lib.hid ht
      clear hstep hmr ht
      generalize ks.getD k 0 = y at *
      go_wp2_with (refine wpList_storeM rfl rfl (k := (s, y)) rfl rfl HMR.out Try.underlying93 ?_; intro w' hm' ht')
      go_roundw
      case rel =>
        refine ⟨k + 1, by omega, by go_num, ?_, HT.out.trans ht' (fun _ _ h => h)⟩
        rw [HS.out]
        unfold Ru.lift
        rw [← mset_lift]
        exact hm'
      case measure => simp [intOf]; omega
    · have hkk : k = ks.length := by omega
      subst hkk
      have HX : Hid (MapAt placeK wr b (Ru.lift (Ru.row m s x ks)) ∧ Touch (· = b) w wr) := by
        rw [List.take_length] at hmr
        exact ⟨hmr, ht⟩
      clear hmr ht
      go_wp2
      go_end0
      exact ⟨rfl, HX.out.1, HX.out.2⟩
end Go.Proofs.Ytkmegkjkbalooaa
