/-
  SendStreams: the states on its way (plain), and the calls on a sender of the law's own.
-/
import Derived.Test.YtajdnllkkekmnaaSfH
import Derived.Test.YtajdnllkkekmnaaCut
namespace Go.Proofs.Ytajdnllkkekmnaa
open Go.RowKit

namespace Sf
/-- Some are kept, some wait; nothing is acknowledged. -/
def stB (s0 : Int) (K W : List ByteArray) : S :=
  { s := s0 + (K.length : Int), a := s0, ms := s0 + 200, ps := s0, pa := s0, units := (K.length : Int), polls := 256, most := 256, wait := W, kept := K, last := List.replicate K.length s0, again := [] }
theorem stB_new (start : Int) : opn (new start 256 256) ((start % 16777216 + 200) % 16777216) = stB (start % 16777216) [] [] := by
  unfold opn at_ new stB
  simp only
  rw [if_pos (by omega)]
  simp
  omega
theorem new_mod2 (start queue polls : Int) : Sd.new (start % 16777216) queue polls = prog (new start queue polls) := by
  rw [← prog_new]
  unfold Sd.new
  congr 1 <;> omega
theorem stB_opn (start : Int) : Sd.opn (prog (new start 256 256)) ((start % 16777216 + 200) % 16777216) = prog (stB (start % 16777216) [] []) := by
  have := (Ok.new start 256 256 _ (Int.le_refl _) (by omega)).prog_opn ((start % 16777216 + 200) % 16777216)
  rw [Int.emod_emod_of_dvd _ (Int.dvd_refl _)] at this
  rw [this, stB_new]
theorem stB_put (s0 : Int) (K W : List ByteArray) (v : ByteArray) (h : W.length < 256) : put (stB s0 K W) v = stB s0 K (W ++ [v]) := by
  unfold put
  rw [if_pos (by exact h)]
  rfl
theorem stB_next (s0 : Int) (K W : List ByteArray) (v : ByteArray) : fresh1 (stB s0 K (v :: W)) v W = stB s0 (K ++ [v]) W := by
  unfold fresh1 stB
  simp [List.replicate_succ']
  omega
theorem stB_ok (s0 : Int) (K W : List ByteArray) (h0 : 0 ≤ s0 ∧ s0 < 16777216) (hK : K.length ≤ 100) (hW : W.length ≤ 256) : Ok (stB s0 K W) s0 (s0 + 100) where
  lo0 := h0
  hl := by omega
  la := Int.le_refl _
  shi := by show s0 + (K.length : Int) ≤ s0 + 100; omega
  klen := rfl
  llen := by show (List.replicate K.length s0).length = K.length; simp
  sms := by show s0 + (K.length : Int) ≤ s0 + 200; omega
  msa := by show s0 + 200 - s0 ≤ _; omega
  lpa := Int.le_refl _
  pas := Int.le_refl _
  phi := by show s0 ≤ s0 + 100; omega
  lasts := fun v hv => by
    have hv : v ∈ List.replicate K.length s0 := hv
    have := List.eq_of_mem_replicate hv
    subst this
    exact ⟨Int.le_refl _, Int.le_refl _⟩
  sorted := List.Pairwise.nil
  ags := fun v hv => by cases hv
  units := by show (0 : Int) ≤ (K.length : Int) ∧ (K.length : Int) ≤ s0 + 100 - s0; omega
  polls := by show (1 : Int) ≤ 256 ∧ (256 : Int) ≤ 256; omega
  most := by show 1 ≤ 256 ∧ 256 ≤ 256; omega
  wlen := hW

/-- All went out, the first of them are acknowledged. -/
structure StC (x : S) (s0 : Int) (n done : Nat) (t : Int) : Prop where
  ok : Ok x s0 (s0 + 100 + t)
  s : x.s = s0 + (n : Int)
  a : x.a = s0 + (done : Int)
  ms : x.ms = s0 + 200
  ps : x.ps = s0 + t
  pa : x.pa = s0 + t
  wait : x.wait = []
  again : x.again = []
theorem StC.new (s0 : Int) (K : List ByteArray) (h0 : 0 ≤ s0 ∧ s0 < 16777216) (hK : K.length ≤ 100) : StC (stB s0 K []) s0 K.length 0 0 :=
  ⟨by simpa using stB_ok s0 K [] h0 hK (by simp), rfl, by simp [stB], rfl, by simp [stB], by simp [stB], rfl, rfl⟩
theorem stat_empty {x : S} {s0 q : Int} {n done d2 : Nat} (hs : x.s = s0 + (n : Int)) (ha : x.a = s0 + (done : Int)) (hms : x.ms = s0 + 200) (hag : x.again = []) (h0 : 0 ≤ s0 ∧ s0 < 16777216) (h1 : done ≤ d2) (h2 : d2 ≤ n) (h3 : n ≤ 100) (hq : x.pa ≤ q ∧ q ≤ x.ps ∧ q - x.pa < 1000) :
    stat x ((s0 + (d2 : Int)) % 16777216) s0 (q % 16777216) [] = ({ ack x (s0 + (d2 : Int)) with pa := q, again := [] }, 0, 0) := by
  have e1 : pollAt x (q % 16777216) = q := by unfold pollAt; omega
  have e2 : at_ x ((s0 + (d2 : Int)) % 16777216) = s0 + (d2 : Int) := by unfold at_; omega
  have e3 : toldOk x ((s0 + (d2 : Int)) % 16777216) [] = true := by
    unfold toldOk
    rw [e2]
    simp [Gp.okSet, Gp.ats, Gp.up, hs]
    omega
  unfold stat
  rw [e1, if_neg (by omega), e3, e2]
  simp only [Bool.true_eq_false, if_false]
  have e4 : opn { ack x (s0 + (d2 : Int)) with pa := q } s0 = { ack x (s0 + (d2 : Int)) with pa := q } := by
    unfold opn
    rw [if_neg]
    rintro ⟨i1, i2⟩
    unfold at_ at i2
    have i1 : (s0 - (s0 + (d2 : Int))) % 16777216 ≤ 8388608 := i1
    have i2 : x.ms ≤ (s0 + (d2 : Int)) + (s0 - (s0 + (d2 : Int))) % 16777216 := i2
    omega
  rw [e4]
  have e5 : told x (s0 + (d2 : Int)) [] = [] := rfl
  rw [e5]
  have e6 : (ack x (s0 + (d2 : Int))).again = [] := by
    show x.again.filter _ = []
    rw [hag]
    rfl
  unfold rep
  have e7 : ∀ z : S, ∀ p, more z p [] = [] := fun z p => by unfold more; simp
  rw [e7]
  have e8 : merge { ack x (s0 + (d2 : Int)) with pa := q } [] = [] := by
    unfold merge
    show (nums _).filter (fun n => decide (n ∈ (ack x (s0 + (d2 : Int))).again) || decide (n ∈ [])) = []
    rw [e6]
    simp
  rw [e8]
  rfl
theorem StC.kept_len {x : S} {s0 t : Int} {n done : Nat} (h : StC x s0 n done t) : (x.kept.length : Int) = (n : Int) - (done : Int) := by
  have h1 := h.ok.klen
  have h2 := h.s
  have h3 := h.a
  omega
/-- A poll, and its answer. -/
theorem StC.go {x : S} {s0 t : Int} {n done d2 : Nat} (h : StC x s0 n done t) (h0 : 0 ≤ s0 ∧ s0 < 16777216) (h1 : done ≤ d2) (h2 : d2 ≤ n) (h3 : n ≤ 100) (ht : 0 ≤ t ∧ t ≤ 100) : ∃ z, stat (poll x) ((s0 + (d2 : Int)) % 16777216) s0 ((s0 + t + 1) % 16777216) [] = (z, 0, 0) ∧ StC z s0 n d2 (t + 1) ∧ Ok (poll x) s0 (s0 + 100 + (t + 1)) := by
  have hp := h.ok.poll (by omega)
  have e1 : (poll x).ps = s0 + t + 1 := by show x.ps + 1 = _; rw [h.ps]
  have e2 : (poll x).pa = s0 + t := h.pa
  have hst := stat_empty (x := poll x) (q := s0 + t + 1) (d2 := d2) h.s h.a h.ms h.again h0 h1 h2 h3 (by rw [e1, e2]; omega)
  have hp2 : Ok (poll x) s0 (s0 + 100 + (t + 1)) := by
    have : s0 + 100 + (t + 1) = s0 + 100 + t + 1 := by omega
    rw [this]
    exact hp
  have hok := hp2.stat ((s0 + (d2 : Int)) % 16777216) s0 ((s0 + t + 1) % 16777216) []
  rw [hst] at hok
  exact ⟨_, hst, ⟨hok, h.s, rfl, h.ms, by rw [show s0 + (t + 1) = s0 + t + 1 by omega]; exact e1, by show s0 + t + 1 = _; omega, h.wait, rfl⟩, hp2⟩
/-- The last answer, to a poll that was answered. -/
theorem StC.last {x : S} {s0 t : Int} {n done : Nat} (h : StC x s0 n done t) (h0 : 0 ≤ s0 ∧ s0 < 16777216) (h1 : done ≤ n) (h3 : n ≤ 100) : ∃ z, stat x ((s0 + (n : Int)) % 16777216) s0 (x.pa % 16777216) [] = (z, 0, 0) ∧ Ok z s0 (s0 + 100 + t) ∧ z.wait = [] ∧ z.kept = [] ∧ z.ms = s0 + 200 ∧ z.again = [] := by
  have hst := stat_empty (x := x) (q := x.pa) (d2 := n) h.s h.a h.ms h.again h0 h1 (Nat.le_refl _) h3 (by have h1 := h.pa; have h2 := h.ps; omega)
  have hok := h.ok.stat ((s0 + (n : Int)) % 16777216) s0 (x.pa % 16777216) []
  rw [hst] at hok
  refine ⟨_, hst, hok, h.wait, ?_, h.ms, rfl⟩
  have hk := hok.klen
  have e1 : (ack x (s0 + (n : Int))).a = s0 + (n : Int) := rfl
  have e2 : (ack x (s0 + (n : Int))).s = s0 + (n : Int) := h.s
  exact List.length_eq_zero_iff.1 (by
    have hk : s0 + (n : Int) + (((ack x (s0 + (n : Int))).kept.length : Nat) : Int) = x.s := hk
    have := h.s
    show (ack x (s0 + (n : Int))).kept.length = 0
    omega)
end Sf

section
variable {B w w' : World} {p : Nat} {x : Sf.S} {lo hi : Int}
theorem ostat {z : Sf.S} {n c r mr ps : Int} (h : OwnSend B w p (Sf.prog x)) (hok : Sf.Ok x lo hi) (hmr : 0 ≤ mr ∧ mr < 16777216) (hz : Sf.stat x r mr ps [] = (z, n, c)) :
    Calls Try.prog 16 #[.pointer (some ⟨p, 0, none⟩), .int .u32 r, .int .u32 mr, .int .u32 ps, .slice none 0 0] w fun e w' => e = .returned (.tuple #[.int .i64 n, .int .i64 c]) ∧ OwnSend B w' p (Sf.prog z) := by
  refine (sstat_any p _ x lo hi hok r mr ps none 0 [] w h.at_ (Rd.nil numE w) (by simp) hmr).mono ?_
  rintro e w' ⟨rfl, h1, h2⟩
  rw [hz] at h1 ⊢
  exact ⟨rfl, h1.mono (fun x hx => Grown.low h.fresh x hx), Touch.back h.fresh h2 (fun _ h => h)⟩
theorem opoll (h : OwnSend B w p (Sf.prog x)) :
    Calls Try.prog 15 #[.pointer (some ⟨p, 0, none⟩)] w fun e w' => e = .returned (.tuple #[.int .u32 ((x.ps + 1) % 16777216), .int .u32 (x.s % 16777216)]) ∧ OwnSend B w' p (Sf.prog (Sf.poll x)) := by
  refine (spoll_any p _ _ w h.at_).mono ?_
  rintro e w' ⟨rfl, h1, h2⟩
  rw [Sf.prog_poll] at h1
  refine ⟨?_, h1, Touch.back h.fresh h2 (fun _ h => h)⟩
  show Ending.returned (.tuple #[.int .u32 ((x.ps % 16777216 + 1) % 16777216), .int .u32 (x.s % 16777216)]) = _
  rw [show (x.ps % 16777216 + 1) % 16777216 = (x.ps + 1) % 16777216 by omega]
theorem oleft (h : OwnSend B w p (Sf.prog x)) (hok : Sf.Ok x lo hi) :
    Calls Try.prog 17 #[.pointer (some ⟨p, 0, none⟩)] w fun e w' => ∃ C d, e = .returned (.slice C (x.kept ++ x.wait).length d) ∧ (x.kept ++ x.wait).length ≤ d ∧ d ≤ maxLen ∧ OwnSend B w' p (Sf.prog x) := by
  refine (sleft_any p _ x lo hi hok w h.at_).mono ?_
  rintro e w' ⟨C, d, rfl, m⟩
  exact ⟨C, d, rfl, m.sl.1, m.sl.2.1, h.old m.fresh⟩
theorem ovarsP (h : OwnSend B w p (Sf.prog x)) (hok : Sf.Ok x lo hi) :
    Calls Try.prog 13 #[.pointer (some ⟨p, 0, none⟩)] w fun e w' => ∃ A' c', e = .returned (.agg #[.int .u32 (x.s % 16777216), .int .u32 (x.a % 16777216), .int .u32 (x.ms % 16777216), .int .u32 (x.ps % 16777216), .int .u32 (x.pa % 16777216), .int .i64 x.units, .int .i64 (x.wait.length : Int), .int .i64 (x.kept.length : Int), .slice A' x.again.length c']) ∧ OwnSend B w' p (Sf.prog x) := by
  have hl : (Sf.prog x).again.length ≤ 16777216 := by show (Sf.pa x.again).length ≤ _; have := hok.again_len; have := hok.kl; simp [Sf.pa]; omega
  refine (ovars h hl).mono ?_
  rintro e w' ⟨A', c', rfl, m, _⟩
  refine ⟨A', c', ?_, m⟩
  have e1 : (Sf.prog x).m.length = x.kept.length := hok.m_len
  have e2 : (Sf.prog x).again.length = x.again.length := by show (Sf.pa x.again).length = _; simp [Sf.pa]
  rw [Sd.varsV]
  rw [e1, e2]
  rfl
end
end Go.Proofs.Ytajdnllkkekmnaa
