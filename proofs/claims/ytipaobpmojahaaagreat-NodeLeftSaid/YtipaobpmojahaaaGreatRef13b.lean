/-
  Maps whose keys are seq.Num · rules: what is done with a unit, and which requests may be · rules: the two tables, Of, May · polliwogref13: the document's answers for rules; Letter, Name · rules.Name, polliwogref13.Letter, May; the fixed fact of polliwoglaw13.
-/
import Derived.Test.YtipaobpmojahaaaGreatRows
import Derived.Test.YtipaobpmojahaaaGreatRow2
import Derived.Test.YtipaobpmojahaaaGreatEvD
import Derived.Deep.DeepCutAuto
import Derived.Deep.CutBlock
import Derived.PlainAid
set_option maxHeartbeats 4000000
namespace Go.Proofs.YtipaobpmojahaaaGreat
open Go.RowKit

def numK : KT Tryz.prog Int := KT.int 55 .u32 Tryz.underlying55
theorem len_map {P : Program} {w : World} {t ty kt e : TypeId} (hu : P.underlying t = some (.map kt e)) {κ : Type} [DecidableEq κ] {K : KT P κ} {b : Nat} {m : MList κ} (h : MapAt K w b m) :
  (Builtin.len_ #[t] ty #[.map (some b)]).run P w = .ok (.int .i64 (m.length : Int)) w := by
 obtain ⟨es, cl, hb, hn⟩ := mlen h
 rw [<- hn]
 exact run_len_map w t ty b es cl (by simp [Program.mapKeyOf, Program.mapElemOf, hu]) hb

theorem placeI : ∃ i, Tryz.prog.info? 3 = some i ∧ i.size = 1 := by
 obtain ⟨i, h1, _, h2, _⟩ := info_parts Tryz.infoInt
 exact ⟨i, h1, h2⟩
def placeK : KT Tryz.prog (Int × Int) := KT.pair 159 3 .i64 Tryz.underlying159 Tryz.underlying3 placeI

namespace Ru
abbrev Tbl := List ((Int × Int) × Int)
def row (m : Tbl) (s x : Int) (ks : List Int) : Tbl := ks.foldl (fun m k => mset m (s, k) x) m
def lift (m : Tbl) : MList (Int × Int) := m.map fun p => (p.1, Value.int .i64 p.2)
def tblS (m : Tbl) (s : Int) : Tbl :=
 let m := row m s 1 [1, 13, 14]
 let m := if s = 2 then m else row m s 1 [3]
 let m := if 5 <= s then row (row m s 1 [5]) s 4 [4, 7] else m
 if 7 <= s then row m s 1 [9] else m
def tblTo : Nat -> Tbl
 |0 => []
 |k + 1 => tblS (tblTo k) ((k : Int) + 1)
def tbl : Tbl :=
 row (row (row (row (row (row (row (row (tblTo 10) 1 3 [2, 5, 6, 8, 9, 10, 11, 12, 15]) 1 2 [7]) 2 1 [2, 7]) 3 2 [2, 4, 5, 6, 7, 8, 9, 10, 11, 12, 15]) 4 1 [4, 7]) 5 1 [6]) 7 1 [15]) 10 1 [8, 10, 11, 12]
def reqS (m : Tbl) (s : Int) : Tbl :=
 let m := row m s 1 [8, 9, 10, 11]
 if s = 1 ∨ s = 4 then m else row m s 1 [3]
def reqTo : Nat -> Tbl
 |0 => []
 |k + 1 => reqS (reqTo k) ((k : Int) + 1)
def req : Tbl :=
 row (row (row (row (row (row (row (reqTo 10) 1 1 [1]) 4 1 [1]) 3 1 [2]) 6 1 [5]) 8 1 [4, 6]) 9 1 [6]) 10 1 [4, 7]
def of_ (s k : Int) : Int := (mget tbl (s, k)).getD 0
def may (s k : Int) : Bool := (mget req (s, k)).getD 0 == 1
theorem lift_get (m : Tbl) (p : Int × Int) : (mget (lift m) p).getD (.int .i64 0) = .int .i64 ((mget m p).getD 0) := by
 unfold lift
 rw [mget_lift]
 cases mget m p <;> rfl
end Ru

theorem Rd.map_ne {α κ : Type} [DecidableEq κ] {P : Program} {K : KT P κ} {E : El α} {w : World} {A : Option Addr} {c b : Nat} {l : List α} {m : MList κ} (h : Rd E w A c l) (hm : MapAt K w b m) (hl : 0 < l.length) : ∀ ad, A = some ad -> ad.block ≠ b := by
 intro ad ha e
 have h0 := h.2.2.2 ad ha 0 _ (List.getElem?_eq_getElem (show 0 < (E.all l).length by rw [E.all_len]; exact Nat.mul_pos hl E.pos))
 obtain ⟨_, es, cl, hb, _⟩ := hm
 subst e
 have hb2 : w.heap[(ad.add 0).block]? = some (.map es cl) := by rw [block_of_add]; exact hb
 simp [World.cell?, hb2] at h0

theorem row_any (b c : Nat) (A : Option Addr) (m : Ru.Tbl) (s x : Int) (ks : List Int) (w : World) (hm : MapAt placeK w b (Ru.lift m)) (hr : Rd intE w A c ks) :
  Calls Tryz.prog 157 #[.map (some b), .int .i64 s, .int .i64 x, .slice A ks.length c] w fun e w' => e = .returned (.tuple #[]) ∧ MapAt placeK w' b (Ru.lift (Ru.row m s x ks)) ∧ Touch (· = b) w w' := by
 have hlc := hr.1
 have hcm := hr.2.1
 unfold maxLen at hcm
 have HR := lh hr
 have HM := lh hm
 clear hr hm
 go_enter Tryz.func157, Tryz.ntmps157
 go_wp2_with fail
 go_loopw [12] (fun i wr => ∃ k : Nat, k <= ks.length ∧ i = .int .i64 k ∧ MapAt placeK wr b (Ru.lift (Ru.row m s x (ks.take k))) ∧ Touch (· = b) w wr) (fun i _ => ks.length - (intOf i).toNat)
 case atStart => exact ⟨0, by omega, rfl, HM.out, Touch.refl _ _⟩
 case round =>
  obtain ⟨k, hk, rfl, hmr, ht⟩ := hrel
  by_cases hlt : k < ks.length
  ·obtain ⟨g, o, rfl, hg, hc⟩ := (HR.out.touch ht (fun ad ha hl => HR.out.map_ne HM.out (by omega) ad ha)).int_at k hlt
   have hstep : Ru.row m s x (ks.take (k + 1)) = mset (Ru.row m s x (ks.take k)) (s, ks.getD k 0) x := by
    unfold Ru.row
    rw [List.take_succ_eq_append_getElem hlt, List.foldl_append]
    simp [List.getD, List.getElem?_eq_getElem hlt]
   have HS := lh hstep
   have HMR := lh hmr
   have HT := lh ht
   clear hstep hmr ht
   generalize ks.getD k 0 = y at *
   go_wp2_with (refine wpList_storeM rfl rfl (k := (s, y)) rfl rfl HMR.out Tryz.underlying156 ?_; intro w' hm' ht')
   go_roundw
   case rel =>
    refine ⟨k + 1, by omega, by go_num, ?_, HT.out.trans ht' (fun _ _ h => h)⟩
    rw [HS.out]
    unfold Ru.lift
    rw [<- mset_lift]
    exact hm'
   case measure => simp [intOf]; omega
  ·have hkk : k = ks.length := by omega
   subst hkk
   have HX : Hid (MapAt placeK wr b (Ru.lift (Ru.row m s x ks)) ∧ Touch (· = b) w wr) := by
    rw [List.take_length] at hmr
    exact ⟨hmr, ht⟩
   clear hmr ht
   go_wp2
   go_end0
   exact ⟨rfl, HX.out.1, HX.out.2⟩

theorem row_lit {b : Nat} {m : Ru.Tbl} {s x : Int} {ks : List Int} {cs : Array Value} {w w0 : World} {g n : Nat} (hm : MapAt placeK w b (Ru.lift m)) (ht : Touch (fun k => w0.heap.size <= k) w0 w) (hb : w0.heap.size <= b)
  (hcs : cs.toList = intE.all ks) (hg : w.heap.size = g) (hn : n = ks.length) (hs : ks.length <= 100) :
  Calls Tryz.prog 157 #[.map (some b), .int .i64 s, .int .i64 x, .slice (some ⟨g, 0, none⟩) n n] (w.alloc (.cells cs 3)) fun e w' => e = .returned (.tuple #[]) ∧ MapAt placeK w' b (Ru.lift (Ru.row m s x ks)) ∧ Touch (fun k => w0.heap.size <= k) w0 w' := by
 subst hn
 refine (row_any b _ _ m s x ks _ (hm.alloc _) (Sl.rd (Sl.lit intE w g hg cs ks hcs _ rfl (by simp only [maxLen]; omega)))).mono ?_
 rintro e w' ⟨he, hm', ht'⟩
 refine ⟨he, hm', (ht.alloc _).trans ht' ?_⟩
 intro k hk e
 have : k = b := e
 omega

theorem table_any (w : World) :
  Calls Tryz.prog 234 #[] w fun e w' => ∃ b, e = .returned (.map (some b)) ∧ MapAt placeK w' b (Ru.lift Ru.tbl) ∧ Fresh w w' := by
 have hmm := @run_makeMap Tryz.prog
 go_enter Tryz.func234, Tryz.ntmps234
 go_wp2_with fail
 go_loopw [2] (fun i wr => ∃ k : Nat, k <= 10 ∧ i = .int .i64 ((k : Int) + 1) ∧ MapAt placeK wr w.heap.size (Ru.lift (Ru.tblTo k)) ∧ Touch (fun k => w.heap.size <= k) w wr) (fun i _ => 11 - (intOf i).toNat)
 case atStart => exact ⟨0, by omega, rfl, MapAt.made placeK w, (Touch.refl _ _).alloc _⟩
 case round =>
  obtain ⟨k, hk, rfl, hm, ht⟩ := hrel
  by_cases hlt : k < 10
  ·have HS : Hid (Ru.tblTo (k + 1) = Ru.tblS (Ru.tblTo k) ((k : Int) + 1)) := rfl
   generalize Ru.tblTo k = m at *
   go_wp2_with fail
   refine (row_lit (ks := [1, 13, 14]) hm ht (Nat.le_refl _) rfl rfl rfl (by decide)).mono ?_
   rintro e wn ⟨rfl, hm1, t1⟩
   replace hm := hm1
   replace ht := t1
   clear hm1 t1
   by_cases h2 : (k : Int) + 1 = 2
   ·have hb2 : ((k : Int) + 1 != 2) = false := by simp [h2]
    have HX : Hid (Ru.tblS m ((k : Int) + 1) = Ru.row m ((k : Int) + 1) 1 [1, 13, 14]) := by
     show _ = _; unfold Ru.tblS; dsimp only; rw [if_pos h2, if_neg (by omega), if_neg (by omega)]
    have H2 := lh h2
    have hlt5 : (k : Int) + 1 < 5 := by omega
    clear h2
    have HM := lh hm
    have HT := lh ht
    clear hm ht
    go_wp2
    go_roundw
    case rel => exact ⟨k + 1, by omega, by go_num, by rw [HS.out, HX.out]; exact HM.out, HT.out⟩
    case measure => simp [intOf]; omega
   ·have hb2 : ((k : Int) + 1 != 2) = true := by simp [h2]
    go_wp2_with fail
    refine (row_lit (ks := [3]) hm ht (Nat.le_refl _) rfl rfl rfl (by decide)).mono ?_
    rintro e wn ⟨rfl, hm1, t1⟩
    replace hm := hm1
    replace ht := t1
    clear hm1 t1
    by_cases h5 : 5 <= (k : Int) + 1
    ·go_wp2_with fail
     refine (row_lit (ks := [5]) hm ht (Nat.le_refl _) rfl rfl rfl (by decide)).mono ?_
     rintro e wn ⟨rfl, hm1, t1⟩
     replace hm := hm1
     replace ht := t1
     clear hm1 t1
     go_wp2_with fail
     refine (row_lit (ks := [4, 7]) hm ht (Nat.le_refl _) rfl rfl rfl (by decide)).mono ?_
     rintro e wn ⟨rfl, hm1, t1⟩
     replace hm := hm1
     replace ht := t1
     clear hm1 t1
     by_cases h7 : 7 <= (k : Int) + 1
     ·go_wp2_with fail
      refine (row_lit (ks := [9]) hm ht (Nat.le_refl _) rfl rfl rfl (by decide)).mono ?_
      rintro e wn ⟨rfl, hm1, t1⟩
      have HX : Hid (Ru.tblS m ((k : Int) + 1) = Ru.row (Ru.row (Ru.row (Ru.row (Ru.row m ((k : Int) + 1) 1 [1, 13, 14]) ((k : Int) + 1) 1 [3]) ((k : Int) + 1) 1 [5]) ((k : Int) + 1) 4 [4, 7]) ((k : Int) + 1) 1 [9]) := by
       show _ = _; unfold Ru.tblS; dsimp only; rw [if_neg h2, if_pos h5, if_pos h7]
      have HM := lh hm1
      have HT := lh t1
      clear hm ht hm1 t1
      go_wp2
      go_roundw
      case rel => exact ⟨k + 1, by omega, by go_num, by rw [HS.out, HX.out]; exact HM.out, HT.out⟩
      case measure => simp [intOf]; omega
     ·have HX : Hid (Ru.tblS m ((k : Int) + 1) = Ru.row (Ru.row (Ru.row (Ru.row m ((k : Int) + 1) 1 [1, 13, 14]) ((k : Int) + 1) 1 [3]) ((k : Int) + 1) 1 [5]) ((k : Int) + 1) 4 [4, 7]) := by
       show _ = _; unfold Ru.tblS; dsimp only; rw [if_neg h2, if_pos h5, if_neg h7]
      have HM := lh hm
      have HT := lh ht
      clear hm ht
      go_wp2
      go_roundw
      case rel => exact ⟨k + 1, by omega, by go_num, by rw [HS.out, HX.out]; exact HM.out, HT.out⟩
      case measure => simp [intOf]; omega
    ·have h7 : ¬ 7 <= (k : Int) + 1 := by omega
     have HX : Hid (Ru.tblS m ((k : Int) + 1) = Ru.row (Ru.row m ((k : Int) + 1) 1 [1, 13, 14]) ((k : Int) + 1) 1 [3]) := by
      show _ = _; unfold Ru.tblS; dsimp only; rw [if_neg h2, if_neg h5, if_neg h7]
     have HM := lh hm
     have HT := lh ht
     clear hm ht
     go_wp2
     go_roundw
     case rel => exact ⟨k + 1, by omega, by go_num, by rw [HS.out, HX.out]; exact HM.out, HT.out⟩
     case measure => simp [intOf]; omega
  ·have e10 : k = 10 := by omega
   subst e10
   generalize hT0 : Ru.tblTo 10 = m0 at *
   have HT0 := lh hT0
   clear hT0
   go_wp2_with fail
   refine (row_lit (ks := [2, 5, 6, 8, 9, 10, 11, 12, 15]) hm ht (Nat.le_refl _) rfl rfl rfl (by decide)).mono ?_
   rintro e wn ⟨rfl, hm1, t1⟩
   replace hm := hm1
   replace ht := t1
   clear hm1 t1
   go_wp2_with fail
   refine (row_lit (ks := [7]) hm ht (Nat.le_refl _) rfl rfl rfl (by decide)).mono ?_
   rintro e wn ⟨rfl, hm1, t1⟩
   replace hm := hm1
   replace ht := t1
   clear hm1 t1
   go_wp2_with fail
   refine (row_lit (ks := [2, 7]) hm ht (Nat.le_refl _) rfl rfl rfl (by decide)).mono ?_
   rintro e wn ⟨rfl, hm1, t1⟩
   replace hm := hm1
   replace ht := t1
   clear hm1 t1
   go_wp2_with fail
   refine (row_lit (ks := [2, 4, 5, 6, 7, 8, 9, 10, 11, 12, 15]) hm ht (Nat.le_refl _) rfl rfl rfl (by decide)).mono ?_
   rintro e wn ⟨rfl, hm1, t1⟩
   replace hm := hm1
   replace ht := t1
   clear hm1 t1
   go_wp2_with fail
   refine (row_lit (ks := [4, 7]) hm ht (Nat.le_refl _) rfl rfl rfl (by decide)).mono ?_
   rintro e wn ⟨rfl, hm1, t1⟩
   replace hm := hm1
   replace ht := t1
   clear hm1 t1
   go_wp2_with fail
   refine (row_lit (ks := [6]) hm ht (Nat.le_refl _) rfl rfl rfl (by decide)).mono ?_
   rintro e wn ⟨rfl, hm1, t1⟩
   replace hm := hm1
   replace ht := t1
   clear hm1 t1
   go_wp2_with fail
   refine (row_lit (ks := [15]) hm ht (Nat.le_refl _) rfl rfl rfl (by decide)).mono ?_
   rintro e wn ⟨rfl, hm1, t1⟩
   replace hm := hm1
   replace ht := t1
   clear hm1 t1
   go_wp2_with fail
   refine (row_lit (ks := [8, 10, 11, 12]) hm ht (Nat.le_refl _) rfl rfl rfl (by decide)).mono ?_
   rintro e wn ⟨rfl, hm1, t1⟩
   have HF : Hid (MapAt placeK wn w.heap.size (Ru.lift Ru.tbl) ∧ Fresh w wn) := by
    refine ⟨?_, t1.mono (fun k hk h => by omega)⟩
    unfold Ru.tbl
    rw [HT0.out]
    exact hm1
   clear hm ht hm1 t1
   go_wp2
   go_ret
   exact ⟨_, rfl, HF.out.1, HF.out.2⟩

theorem requests_any (w : World) :
  Calls Tryz.prog 73 #[] w fun e w' => ∃ b, e = .returned (.map (some b)) ∧ MapAt placeK w' b (Ru.lift Ru.req) ∧ Fresh w w' := by
 have hmm := @run_makeMap Tryz.prog
 go_enter Tryz.func73, Tryz.ntmps73
 go_wp2_with fail
 go_loopw [2] (fun i wr => ∃ k : Nat, k <= 10 ∧ i = .int .i64 ((k : Int) + 1) ∧ MapAt placeK wr w.heap.size (Ru.lift (Ru.reqTo k)) ∧ Touch (fun k => w.heap.size <= k) w wr) (fun i _ => 11 - (intOf i).toNat)
 case atStart => exact ⟨0, by omega, rfl, MapAt.made placeK w, (Touch.refl _ _).alloc _⟩
 case round =>
  obtain ⟨k, hk, rfl, hm, ht⟩ := hrel
  by_cases hlt : k < 10
  ·have HS : Hid (Ru.reqTo (k + 1) = Ru.reqS (Ru.reqTo k) ((k : Int) + 1)) := rfl
   generalize Ru.reqTo k = m at *
   go_wp2_with fail
   refine (row_lit (ks := [8, 9, 10, 11]) hm ht (Nat.le_refl _) rfl rfl rfl (by decide)).mono ?_
   rintro e wn ⟨rfl, hm1, t1⟩
   replace hm := hm1
   replace ht := t1
   clear hm1 t1
   by_cases h1 : (k : Int) + 1 = 1
   ·have hb1 : ((k : Int) + 1 != 1) = false := by simp [h1]
    have HX : Hid (Ru.reqS m ((k : Int) + 1) = Ru.row m ((k : Int) + 1) 1 [8, 9, 10, 11]) := by
     show _ = _; unfold Ru.reqS; dsimp only; rw [if_pos (.inl h1)]
    clear h1
    have HM := lh hm
    have HT := lh ht
    clear hm ht
    go_wp2
    go_roundw
    case rel => exact ⟨k + 1, by omega, by go_num, by rw [HS.out, HX.out]; exact HM.out, HT.out⟩
    case measure => simp [intOf]; omega
   ·have hb1 : ((k : Int) + 1 != 1) = true := by rw [bne_iff_ne]; exact h1
    by_cases h4 : (k : Int) + 1 = 4
    ·have hb4 : ((k : Int) + 1 != 4) = false := by simp [h4]
     have HX : Hid (Ru.reqS m ((k : Int) + 1) = Ru.row m ((k : Int) + 1) 1 [8, 9, 10, 11]) := by
      show _ = _; unfold Ru.reqS; dsimp only; rw [if_pos (.inr h4)]
     clear h1 h4
     have HM := lh hm
     have HT := lh ht
     clear hm ht
     go_wp2
     go_roundw
     case rel => exact ⟨k + 1, by omega, by go_num, by rw [HS.out, HX.out]; exact HM.out, HT.out⟩
     case measure => simp [intOf]; omega
    ·have hb4 : ((k : Int) + 1 != 4) = true := by rw [bne_iff_ne]; exact h4
     have HX : Hid (Ru.reqS m ((k : Int) + 1) = Ru.row (Ru.row m ((k : Int) + 1) 1 [8, 9, 10, 11]) ((k : Int) + 1) 1 [3]) := by
      show _ = _; unfold Ru.reqS; dsimp only; rw [if_neg (by omega)]
     clear h1 h4
     go_wp2_with fail
     refine (row_lit (ks := [3]) hm ht (Nat.le_refl _) rfl rfl rfl (by decide)).mono ?_
     rintro e wn ⟨rfl, hm1, t1⟩
     have HM := lh hm1
     have HT := lh t1
     clear hm ht hm1 t1
     go_wp2
     go_roundw
     case rel => exact ⟨k + 1, by omega, by go_num, by rw [HS.out, HX.out]; exact HM.out, HT.out⟩
     case measure => simp [intOf]; omega
  ·have e10 : k = 10 := by omega
   subst e10
   generalize hT0 : Ru.reqTo 10 = m0 at *
   have HT0 := lh hT0
   clear hT0
   go_wp2_with fail
   refine (row_lit (ks := [1]) hm ht (Nat.le_refl _) rfl rfl rfl (by decide)).mono ?_
   rintro e wn ⟨rfl, hm1, t1⟩
   replace hm := hm1
   replace ht := t1
   clear hm1 t1
   go_wp2_with fail
   refine (row_lit (ks := [1]) hm ht (Nat.le_refl _) rfl rfl rfl (by decide)).mono ?_
   rintro e wn ⟨rfl, hm1, t1⟩
   replace hm := hm1
   replace ht := t1
   clear hm1 t1
   go_wp2_with fail
   refine (row_lit (ks := [2]) hm ht (Nat.le_refl _) rfl rfl rfl (by decide)).mono ?_
   rintro e wn ⟨rfl, hm1, t1⟩
   replace hm := hm1
   replace ht := t1
   clear hm1 t1
   go_wp2_with fail
   refine (row_lit (ks := [5]) hm ht (Nat.le_refl _) rfl rfl rfl (by decide)).mono ?_
   rintro e wn ⟨rfl, hm1, t1⟩
   replace hm := hm1
   replace ht := t1
   clear hm1 t1
   go_wp2_with fail
   refine (row_lit (ks := [4, 6]) hm ht (Nat.le_refl _) rfl rfl rfl (by decide)).mono ?_
   rintro e wn ⟨rfl, hm1, t1⟩
   replace hm := hm1
   replace ht := t1
   clear hm1 t1
   go_wp2_with fail
   refine (row_lit (ks := [6]) hm ht (Nat.le_refl _) rfl rfl rfl (by decide)).mono ?_
   rintro e wn ⟨rfl, hm1, t1⟩
   replace hm := hm1
   replace ht := t1
   clear hm1 t1
   go_wp2_with fail
   refine (row_lit (ks := [4, 7]) hm ht (Nat.le_refl _) rfl rfl rfl (by decide)).mono ?_
   rintro e wn ⟨rfl, hm1, t1⟩
   have HF : Hid (MapAt placeK wn w.heap.size (Ru.lift Ru.req) ∧ Fresh w wn) := by
    refine ⟨?_, t1.mono (fun k hk h => by omega)⟩
    unfold Ru.req
    rw [HT0.out]
    exact hm1
   clear hm ht hm1 t1
   go_wp2
   go_ret
   exact ⟨_, rfl, HF.out.1, HF.out.2⟩

theorem zeroInt (w : World) : (zeroValue 3).run Tryz.prog w = .ok (.int .i64 0) w := by kernel_rfl

theorem ruleof_any (s k : Int) (w : World) :
  Calls Tryz.prog 171 #[.int .i64 s, .int .i64 k] w fun e w' => e = .returned (.int .i64 (Ru.of_ s k)) ∧ Fresh w w' := by
 go_enter Tryz.func171, Tryz.ntmps171
 go_wp2_with fail
 refine (table_any w).mono ?_
 rintro e w1 ⟨b, rfl, hm, ht⟩
 have HT := lh ht
 have HM := lh hm
 have HV : Hid ((mget (Ru.lift Ru.tbl) (s, k)).getD (.int .i64 0) = .int .i64 (Ru.of_ s k)) := Ru.lift_get _ _
 clear ht hm
 go_wp2_with (refine wpList_lookM rfl rfl (k := (s, k)) rfl rfl HM.out Tryz.underlying156 (zeroInt _) ?_; rw [if_neg (by decide), HV.out])
 go_ret
 exact ⟨rfl, HT.out⟩

theorem may_any (s k : Int) (w : World) :
  Calls Tryz.prog 29 #[.int .i64 s, .int .i64 k] w fun e w' => e = .returned (.bool (Ru.may s k)) ∧ Fresh w w' := by
 go_enter Tryz.func29, Tryz.ntmps29
 go_wp2_with fail
 refine (requests_any w).mono ?_
 rintro e w1 ⟨b, rfl, hm, ht⟩
 have HT := lh ht
 have HM := lh hm
 have HV : Hid ((mget (Ru.lift Ru.req) (s, k)).getD (.int .i64 0) = .int .i64 ((mget Ru.req (s, k)).getD 0)) := Ru.lift_get _ _
 clear ht hm
 go_wp2_with (refine wpList_lookM rfl rfl (k := (s, k)) rfl rfl HM.out Tryz.underlying156 (zeroInt _) ?_; rw [if_neg (by decide), HV.out])
 go_ret
 exact ⟨rfl, HT.out⟩
open Go.RowKit Go.PlainAid

namespace Ru
def rowsB : List ByteArray := [{ data := #[72, 82, 72, 46, 82, 82, 87, 82, 82, 82, 82, 82, 72, 72, 82] }, { data := #[72, 72, 46, 46, 46, 46, 72, 46, 46, 46, 46, 46, 72, 72, 46] }, { data := #[72, 87, 72, 87, 87, 87, 87, 87, 87, 87, 87, 87, 72, 72, 87] }, { data := #[72, 46, 72, 72, 46, 46, 72, 46, 46, 46, 46, 46, 72, 72, 46] }, { data := #[72, 46, 72, 70, 72, 72, 70, 46, 46, 46, 46, 46, 72, 72, 46] }, { data := #[72, 46, 72, 70, 72, 46, 70, 46, 46, 46, 46, 46, 72, 72, 46] }, { data := #[72, 46, 72, 70, 72, 46, 70, 46, 72, 46, 46, 46, 72, 72, 72] }, { data := #[72, 46, 72, 70, 72, 46, 70, 46, 72, 46, 46, 46, 72, 72, 46] }, { data := #[72, 46, 72, 70, 72, 46, 70, 46, 72, 46, 46, 46, 72, 72, 46] }, { data := #[72, 46, 72, 70, 72, 46, 70, 72, 72, 72, 72, 72, 72, 72, 46] }]
def code (b : Int) : Int := if b = 72 then 1 else if b = 87 then 2 else if b = 82 then 3 else if b = 70 then 4 else 0
def refOf (s k : Int) : Int := if 1 <= s ∧ s <= 10 ∧ 1 <= k ∧ k <= 15 then code (bt (rowsB.getD (s.toNat - 1) ByteArray.empty) (k.toNat - 1)) else 0
def orderB : ByteArray := { data := #[66, 67, 69, 70, 74, 75, 68, 65, 76, 71, 72, 73, 0, 0, 77] }
def letter (k : Int) : Int := if 1 <= k ∧ k <= 15 then bt orderB (k.toNat - 1) else 0
def refMay (s q : Int) : Bool :=
 if 1 <= s ∧ s <= 10 then
  if q = 1 then decide (s = 1 ∨ s = 4) else if q = 2 then decide (s = 3) else if q = 3 then decide (s ≠ 1 ∧ s ≠ 4) else if q = 4 then decide (s = 8 ∨ s = 10)
  else if q = 5 then decide (s = 6) else if q = 6 then decide (s = 8 ∨ s = 9) else if q = 7 then decide (s = 10) else decide (8 <= q ∧ q <= 11)
 else false
theorem rows_size : rowsB.all (fun b => b.size == 15) = true := by decide +kernel
end Ru

theorem letter_any (k : Int) (w : World) : Calls Tryz.prog 173 #[.int .i64 k] w fun e w' => e = .returned (.int .u8 (Ru.letter k)) ∧ w = w' := by
 by_cases h : 1 <= k ∧ k <= 15
 ·obtain ⟨h1, h2⟩ := h
  have hl : Hid (Ru.letter k = bt Ru.orderB (k.toNat - 1)) := by show _ = _; unfold Ru.letter; rw [if_pos ⟨h1, h2⟩]
  have hg := get_bt Ru.orderB
  have hs : Ru.orderB.size = 15 := by decide +kernel
  have he : ({ data := #[66, 67, 69, 70, 74, 75, 68, 65, 76, 71, 72, 73, 0, 0, 77] } : ByteArray) = Ru.orderB := rfl
  generalize Ru.orderB = X at *
  go_enter Tryz.func173, Tryz.ntmps173
  go_wp2
  go_ret
  exact ⟨by rw [hl.out]; rfl, rfl⟩
 ·have hl : Hid (Ru.letter k = 0) := by show _ = _; unfold Ru.letter; rw [if_neg h]
  by_cases h1 : k < 1
  ·clear h
   go_enter Tryz.func173, Tryz.ntmps173
   go_wp2
   go_ret
   exact ⟨by rw [hl.out]; rfl, rfl⟩
  ·have h2 : 15 < k := by omega
   clear h
   go_enter Tryz.func173, Tryz.ntmps173
   go_wp2
   go_ret
   exact ⟨by rw [hl.out]; rfl, rfl⟩

theorem refOf_any (s k : Int) (w : World) : Calls Tryz.prog 253 #[.int .i64 s, .int .i64 k] w fun e w' => e = .returned (.int .i64 (Ru.refOf s k)) ∧ Fresh w w' := by
 by_cases h : 1 <= s ∧ s <= 10 ∧ 1 <= k ∧ k <= 15
 ·obtain ⟨h1, h2, h3, h4⟩ := h
  have hl : Hid (Ru.refOf s k = Ru.code (bt (Ru.rowsB.getD (s.toNat - 1) ByteArray.empty) (k.toNat - 1))) := by show _ = _; unfold Ru.refOf; rw [if_pos ⟨h1, h2, h3, h4⟩]
  have hlen : (s.toNat - 1) < Ru.rowsB.length := by show _ < 10; omega
  have hs : (Ru.rowsB.getD (s.toNat - 1) ByteArray.empty).size = 15 := by
   have := List.all_eq_true.1 Ru.rows_size (Ru.rowsB[(s.toNat - 1)]) (List.getElem_mem hlen)
   rw [List.getD_eq_getElem?_getD, List.getElem?_eq_getElem hlen]
   exact eq_of_beq this
  have hc : (w.alloc (.cells #[Value.string { data := #[72, 82, 72, 46, 82, 82, 87, 82, 82, 82, 82, 82, 72, 72, 82] }, Value.string { data := #[72, 72, 46, 46, 46, 46, 72, 46, 46, 46, 46, 46, 72, 72, 46] }, Value.string { data := #[72, 87, 72, 87, 87, 87, 87, 87, 87, 87, 87, 87, 72, 72, 87] }, Value.string { data := #[72, 46, 72, 72, 46, 46, 72, 46, 46, 46, 46, 46, 72, 72, 46] }, Value.string { data := #[72, 46, 72, 70, 72, 72, 70, 46, 46, 46, 46, 46, 72, 72, 46] }, Value.string { data := #[72, 46, 72, 70, 72, 46, 70, 46, 46, 46, 46, 46, 72, 72, 46] }, Value.string { data := #[72, 46, 72, 70, 72, 46, 70, 46, 72, 46, 46, 46, 72, 72, 72] }, Value.string { data := #[72, 46, 72, 70, 72, 46, 70, 46, 72, 46, 46, 46, 72, 72, 46] }, Value.string { data := #[72, 46, 72, 70, 72, 46, 70, 46, 72, 46, 46, 46, 72, 72, 46] }, Value.string { data := #[72, 46, 72, 70, 72, 46, 70, 72, 72, 72, 72, 72, 72, 72, 46] }] 9)).cell? ⟨w.heap.size, (s.toNat - 1), none⟩ = some (.string (Ru.rowsB.getD (s.toNat - 1) ByteArray.empty)) := by
   rw [World.cell?_alloc_new]
   have : (#[Value.string { data := #[72, 82, 72, 46, 82, 82, 87, 82, 82, 82, 82, 82, 72, 72, 82] }, Value.string { data := #[72, 72, 46, 46, 46, 46, 72, 46, 46, 46, 46, 46, 72, 72, 46] }, Value.string { data := #[72, 87, 72, 87, 87, 87, 87, 87, 87, 87, 87, 87, 72, 72, 87] }, Value.string { data := #[72, 46, 72, 72, 46, 46, 72, 46, 46, 46, 46, 46, 72, 72, 46] }, Value.string { data := #[72, 46, 72, 70, 72, 72, 70, 46, 46, 46, 46, 46, 72, 72, 46] }, Value.string { data := #[72, 46, 72, 70, 72, 46, 70, 46, 46, 46, 46, 46, 72, 72, 46] }, Value.string { data := #[72, 46, 72, 70, 72, 46, 70, 46, 72, 46, 46, 46, 72, 72, 72] }, Value.string { data := #[72, 46, 72, 70, 72, 46, 70, 46, 72, 46, 46, 46, 72, 72, 46] }, Value.string { data := #[72, 46, 72, 70, 72, 46, 70, 46, 72, 46, 46, 46, 72, 72, 46] }, Value.string { data := #[72, 46, 72, 70, 72, 46, 70, 72, 72, 72, 72, 72, 72, 72, 46] }] : Array Value) = (Ru.rowsB.map Value.string).toArray := rfl
   rw [this, List.getD_eq_getElem?_getD, List.getElem?_eq_getElem hlen, List.getElem?_toArray, List.getElem?_map, List.getElem?_eq_getElem hlen]
   rfl
  have hg := get_bt (Ru.rowsB.getD (s.toNat - 1) ByteArray.empty)
  have hf : Hid (Fresh w (w.alloc (.cells #[Value.string { data := #[72, 82, 72, 46, 82, 82, 87, 82, 82, 82, 82, 82, 72, 72, 82] }, Value.string { data := #[72, 72, 46, 46, 46, 46, 72, 46, 46, 46, 46, 46, 72, 72, 46] }, Value.string { data := #[72, 87, 72, 87, 87, 87, 87, 87, 87, 87, 87, 87, 72, 72, 87] }, Value.string { data := #[72, 46, 72, 72, 46, 46, 72, 46, 46, 46, 46, 46, 72, 72, 46] }, Value.string { data := #[72, 46, 72, 70, 72, 72, 70, 46, 46, 46, 46, 46, 72, 72, 46] }, Value.string { data := #[72, 46, 72, 70, 72, 46, 70, 46, 46, 46, 46, 46, 72, 72, 46] }, Value.string { data := #[72, 46, 72, 70, 72, 46, 70, 46, 72, 46, 46, 46, 72, 72, 72] }, Value.string { data := #[72, 46, 72, 70, 72, 46, 70, 46, 72, 46, 46, 46, 72, 72, 46] }, Value.string { data := #[72, 46, 72, 70, 72, 46, 70, 46, 72, 46, 46, 46, 72, 72, 46] }, Value.string { data := #[72, 46, 72, 70, 72, 46, 70, 72, 72, 72, 72, 72, 72, 72, 46] }] 9))) := (Touch.refl _ _).alloc _
  generalize Ru.rowsB.getD (s.toNat - 1) ByteArray.empty = X at *
  clear hlen
  generalize hx : bt X (k.toNat - 1) = x at *
  have HX := lh hx
  clear hx
  have hgx : ∀ h, ((X[(k.toNat - 1)]'h).toNat : Int) = x := fun h => (hg _ h).trans HX.out
  clear hg
  by_cases x1 : x = 72
  ·have b1 : (x == 72) = true := by simp [x1]
   have hr : Hid (Ru.refOf s k = 1) := by show _ = _; rw [hl.out]; unfold Ru.code; rw [if_pos x1]
   clear x1
   go_enter Tryz.func253, Tryz.ntmps253
   go_wp2
   go_ret
   exact ⟨by rw [hr.out]; rfl, hf.out⟩
  ·have b1 : (x == 72) = false := by simp [x1]
   by_cases x2 : x = 87
   ·have b2 : (x == 87) = true := by simp [x2]
    have hr : Hid (Ru.refOf s k = 2) := by show _ = _; rw [hl.out]; unfold Ru.code; rw [if_neg x1, if_pos x2]
    clear x1 x2
    go_enter Tryz.func253, Tryz.ntmps253
    go_wp2
    go_ret
    exact ⟨by rw [hr.out]; rfl, hf.out⟩
   ·have b2 : (x == 87) = false := by simp [x2]
    by_cases x3 : x = 82
    ·have b3 : (x == 82) = true := by simp [x3]
     have hr : Hid (Ru.refOf s k = 3) := by show _ = _; rw [hl.out]; unfold Ru.code; rw [if_neg x1, if_neg x2, if_pos x3]
     clear x1 x2 x3
     go_enter Tryz.func253, Tryz.ntmps253
     go_wp2
     go_ret
     exact ⟨by rw [hr.out]; rfl, hf.out⟩
    ·have b3 : (x == 82) = false := by simp [x3]
     by_cases x4 : x = 70
     ·have b4 : (x == 70) = true := by simp [x4]
      have hr : Hid (Ru.refOf s k = 4) := by show _ = _; rw [hl.out]; unfold Ru.code; rw [if_neg x1, if_neg x2, if_neg x3, if_pos x4]
      clear x1 x2 x3 x4
      go_enter Tryz.func253, Tryz.ntmps253
      go_wp2
      go_ret
      exact ⟨by rw [hr.out]; rfl, hf.out⟩
     ·have b4 : (x == 70) = false := by simp [x4]
      have hr : Hid (Ru.refOf s k = 0) := by show _ = _; rw [hl.out]; unfold Ru.code; rw [if_neg x1, if_neg x2, if_neg x3, if_neg x4]
      clear x1 x2 x3 x4
      go_enter Tryz.func253, Tryz.ntmps253
      go_wp2
      go_ret
      exact ⟨by rw [hr.out]; rfl, hf.out⟩
 ·have hl : Hid (Ru.refOf s k = 0) := by show _ = _; unfold Ru.refOf; rw [if_neg h]
  by_cases h1 : s < 1
  ·clear h
   go_enter Tryz.func253, Tryz.ntmps253
   go_wp2
   go_ret
   exact ⟨by rw [hl.out]; rfl, Touch.refl _ _⟩
  ·by_cases h2 : 10 < s
   ·clear h
    go_enter Tryz.func253, Tryz.ntmps253
    go_wp2
    go_ret
    exact ⟨by rw [hl.out]; rfl, Touch.refl _ _⟩
   ·by_cases h3 : k < 1
    ·clear h
     go_enter Tryz.func253, Tryz.ntmps253
     go_wp2
     go_ret
     exact ⟨by rw [hl.out]; rfl, Touch.refl _ _⟩
    ·have h4 : 15 < k := by omega
     clear h
     go_enter Tryz.func253, Tryz.ntmps253
     go_wp2
     go_ret
     exact ⟨by rw [hl.out]; rfl, Touch.refl _ _⟩
open Go.RowKit Go.PlainAid

namespace Ru
end Ru


theorem refMay_one (s q : Int) (h1 : 1 <= s) (h2 : s <= 10) (q1 : 1 <= q) (q2 : q <= 7) (w : World) : Calls Tryz.prog 120 #[.int .i64 s, .int .i64 q] w fun e w' => e = .returned (.bool (Ru.refMay s q)) ∧ w = w' := by
 have hs : s = 1 ∨ s = 2 ∨ s = 3 ∨ s = 4 ∨ s = 5 ∨ s = 6 ∨ s = 7 ∨ s = 8 ∨ s = 9 ∨ s = 10 := by omega
 have hq : q = 1 ∨ q = 2 ∨ q = 3 ∨ q = 4 ∨ q = 5 ∨ q = 6 ∨ q = 7 := by omega
 clear h1 h2 q1 q2
 rcases hs with rfl | rfl | rfl | rfl | rfl | rfl | rfl | rfl | rfl | rfl <;> rcases hq with rfl | rfl | rfl | rfl | rfl | rfl | rfl
 all_goals
  go_enter Tryz.func120, Tryz.ntmps120
  go_wp2
  go_ret
  exact ⟨rfl, rfl⟩

theorem refMay_any (s q : Int) (w : World) : Calls Tryz.prog 120 #[.int .i64 s, .int .i64 q] w fun e w' => e = .returned (.bool (Ru.refMay s q)) ∧ w = w' := by
 by_cases h : 1 <= s ∧ s <= 10
 ·by_cases hq : 1 <= q ∧ q <= 7
  ·exact refMay_one s q h.1 h.2 hq.1 hq.2 w
  ·obtain ⟨h1, h2⟩ := h
   have hl : Hid (Ru.refMay s q = decide (8 <= q ∧ q <= 11)) := by
    show _ = _; unfold Ru.refMay
    rw [if_pos ⟨h1, h2⟩, if_neg (by omega), if_neg (by omega), if_neg (by omega), if_neg (by omega), if_neg (by omega), if_neg (by omega), if_neg (by omega)]
   have b1 : (q == 1) = false := by simp; omega
   have b2 : (q == 2) = false := by simp; omega
   have b3 : (q == 3) = false := by simp; omega
   have b4 : (q == 4) = false := by simp; omega
   have b5 : (q == 5) = false := by simp; omega
   have b6 : (q == 6) = false := by simp; omega
   have b7 : (q == 7) = false := by simp; omega
   have hq' := lh hq
   clear hq
   by_cases q8 : 8 <= q
   ·by_cases q11 : q <= 11
    ·go_enter Tryz.func120, Tryz.ntmps120
     go_wp2
     go_ret
     exact ⟨by rw [hl.out]; simp [q8, q11], rfl⟩
    ·go_enter Tryz.func120, Tryz.ntmps120
     go_wp2
     go_ret
     exact ⟨by rw [hl.out]; simp [q8, q11], rfl⟩
   ·go_enter Tryz.func120, Tryz.ntmps120
    go_wp2
    go_ret
    exact ⟨by rw [hl.out, decide_eq_false (show ¬ (8 <= q ∧ q <= 11) by omega)]; rfl, rfl⟩
 ·have hl : Hid (Ru.refMay s q = false) := by show _ = _; unfold Ru.refMay; rw [if_neg h]
  by_cases h1 : s < 1
  ·clear h
   go_enter Tryz.func120, Tryz.ntmps120
   go_wp2
   go_ret
   exact ⟨by rw [hl.out]; rfl, rfl⟩
  ·have h2 : 10 < s := by omega
   clear h
   go_enter Tryz.func120, Tryz.ntmps120
   go_wp2
   go_ret
   exact ⟨by rw [hl.out]; rfl, rfl⟩

end Go.Proofs.YtipaobpmojahaaaGreat
