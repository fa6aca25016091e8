/-
  polliwoglaw16.NodeLeft: the walk. No conditions.
-/
import Derived.Test.YtipaobpmojahaaaGreatAwk
import Derived.Test.YtipaobpmojahaaaGreatLfP
import Derived.Test.YtipaobpmojahaaaGreatNxP
import Derived.Test.YtipaobpmojahaaaGreatEnRq
import Derived.Test.YtipaobpmojahaaaGreatOpP
set_option maxHeartbeats 16000000
namespace Go.Proofs.YtipaobpmojahaaaGreat
open Go.RowKit
set_option maxRecDepth 20000
set_option linter.constructorNameAsVariable false

namespace Lf
theorem vars_left (x : En.X) (A : Option Addr) (c : Nat) (W : World) : (Instr.field 72 (.agg (En.varsC x A c).toArray) 5).run Tryz.prog W = .ok (.int .i64 (x.left.length : Int)) W := by
 obtain ⟨x0, x1, x2, x3, x4, x5, x6, x7, x8, x9, ep⟩ := x
 cases ep <;> kernel_rfl
theorem vars_snd (x : En.X) (e : Sf.S × Rf.S) (he : x.ep = some e) (A : Option Addr) (c : Nat) (W : World) : (Instr.field 72 (.agg (En.varsC x A c).toArray) 1).run Tryz.prog W = .ok (.agg (En.sendV (Sf.prog e.1) A c).toArray) W := by
 obtain ⟨x0, x1, x2, x3, x4, x5, x6, x7, x8, x9, ep⟩ := x
 subst he
 kernel_rfl
theorem sendI : (Tryz.prog.info? 67).map (·.size) = some 9 := by kernel_rfl
def sZ : List Value := [.int .u32 0, .int .u32 0, .int .u32 0, .int .u32 0, .int .u32 0, .int .i64 0, .int .i64 0, .int .i64 0, .slice none 0 0]
section
variable {K : Nat -> Prop} {w W : World} {n : Nat} {lo hi : Int} {q : Nat} {x : En.X} {asked : List ByteArray}
def AskL (K : Nat -> Prop) (w W : World) (n : Nat) (lo hi : Int) (q : Nat) (asked : List ByteArray) (d : ByteArray) (e : Ending) (w' : World) : Prop := ∃ A1 l1 c1 er x1, e = .returned (.tuple #[.slice A1 l1 c1, .int .i64 er]) ∧ Held K w w' n x1 ∧ Touch (fun b => ¬ K b) W w' ∧ N0 x1 ∧ L lo hi q x1 (if er = 0 then asked ++ [d] else asked)
theorem ask_data (h : Held K w W n x) (hL : L lo hi q x asked) (h0 : N0 x) {d : ByteArray} (hd : d.size <= 5) : Calls Tryz.prog 12 #[.pointer (some ⟨n, 0, none⟩), .agg #[.int .i64 7, .string d, .int .i64 0]] W (AskL K w W n lo hi q asked d) := by
 obtain ⟨s, r, he, -⟩ := hL.ep
 have h1 := h.request (kd := 7) (d := d) (m := 0) fun hin => nrequest_of hin hL.fit (by rw [hL.lf]; exact Nat.zero_le _) 7 d 0 fun _ _ h0 _ => nask_data h0 he d 0
 obtain ⟨y, sg, er, h2, h3, h4⟩ := hL.ask h0 hd
 rw [h2] at h1
 refine h1.mono ?_
 rintro e w' ⟨A, c, rfl, h5, -, h6, -⟩
 exact ⟨A, _, c, er, y, rfl, h5, h6, h3, h4⟩
theorem next_l (h : Held K w W n x) (hL : L lo hi q x asked) (hh : hi + 1 - lo <= 4000) : Calls Tryz.prog 14 #[.pointer (some ⟨n, 0, none⟩)] W fun e w' => ∃ (u' : Cn.Pd) (b : Bool) (x' : En.X), e = .returned (.tuple #[pduV u', .bool b]) ∧ Held K w w' n x' ∧ Touch (fun b => ¬ K b) W w' ∧ L lo (hi + 1) q x' asked := by
 obtain ⟨s, r, he, -, hg, -⟩ := hL.ep
 have hso := (hL.fit.ep _ he).1
 refine (h.next hL.fit (fun s' r' e => by
  rw [he] at e
  injection e with e
  injection e with e1 e2
  subst e1 e2
  exact ⟨hL.sf, hg, fun p F W hs => snextP_any p F s _ _ hso W hs⟩)).mono ?_
 rintro e w' ⟨u', rfl, h3, h4, -⟩
 exact ⟨u', _, _, rfl, h3, h4, hL.next hh⟩
def A4 (K : Nat -> Prop) (w W : World) (n : Nat) (lo hi : Int) (asked : List ByteArray) (e : Ending) (w' : World) : Prop := (∃ A c m, e = .returned (.slice A m c)) ∧ Touch (fun b => ¬ K b) W w' ∧ ∃ y s r, Held K w w' n y ∧ y.lacks = En.lack y ∧ y.conn.state = 10 ∧ y.left = [] ∧ En.Fit y hi (lo + 64) ∧ y.ep = some (s, r) ∧ s.kept ++ s.wait = asked
theorem ack_l (h : Held K w W n x) (hL : L lo hi q x asked) {s : Sf.S} {r : Rf.S} (he : x.ep = some (s, r)) {k : Nat} (hk : k <= s.kept.length) (hh : hi - lo <= 4000) : Calls Tryz.prog 13 #[.pointer (some ⟨n, 0, none⟩), pduV (ackU s k)] W (A4 K w W n lo hi (asked.drop k)) := by
 have h1 := h.receive (u := ackU s k) (by show 0 <= (s.a + k) % 16777216 ∧ (s.a + k) % 16777216 < 16777216; omega) (by show 0 <= s.ms % 16777216 ∧ s.ms % 16777216 < 16777216; omega) ⟨rfl, rfl, rfl⟩ fun hin hu => nreceive_of hin _ [] hu (fun _ _ h0 u0 => nhear_of h0 hL.fit _ [] u0 fun _ _ _ h1 u1 he1 _ => ntrans_stat h1 he1 (hL.fit.ep _ he1).1 (hL.fit.ep _ he1).2 hL.fit.ctl _ [] rfl u1.mr u1.rd u1.ln u1.ll (fun ad e => (u1.ap ad e).2)) (Lf.hear_stat hL.fit (by rw [hL.st]; omega) he _ [] rfl)
 obtain ⟨y, sg, h2, h3, h4, h5, -, -, h6, s', r', h7, h8⟩ := hL.heard he hk hh
 rw [h2] at h1
 refine h1.mono ?_
 rintro e w' ⟨A, c, rfl, g1, -, g2, -⟩
 exact ⟨⟨A, c, _, rfl⟩, g2, y, s', r', g1, h3, h4, h5, h6, h7, h8⟩
theorem retr_0 (h : Held K w W n x) {hi2 : Int} (hf : En.Fit x hi hi2) (h1 : x.conn.state = 10) (h2 : x.left = []) (h3 : x.lacks = En.lack x) : Calls Tryz.prog 12 #[.pointer (some ⟨n, 0, none⟩), .agg #[.int .i64 11, .string { data := #[] }, .int .i64 0]] W fun e w' => ∃ A c, e = .returned (.tuple #[.slice A 0 c, .int .i64 0]) ∧ Held K w w' n x ∧ Touch (fun b => ¬ K b) W w' := by
 have h4 := h.request (kd := 11) (d := Cn.no) (m := 0) fun hin => nrequest_of hin hf (by rw [h2]; exact Nat.zero_le _) 11 Cn.no 0 fun _ _ h0 _ => nask_retr h0 (by rw [h2]; exact Nat.zero_le _) Cn.no 0
 rw [retr0 h1 h2 h3] at h4
 refine h4.mono ?_
 rintro e w' ⟨A, c, rfl, g1, -, g2, -⟩
 exact ⟨A, c, rfl, g1, g2⟩
theorem release_l (h : Held K w W n x) {lo2 : Int} (hf : En.Fit x hi lo2) (h1 : x.conn.state = 10) (h2 : x.left = []) {s : Sf.S} {r : Rf.S} (he : x.ep = some (s, r)) : Calls Tryz.prog 12 #[.pointer (some ⟨n, 0, none⟩), .agg #[.int .i64 3, .string { data := #[] }, .int .i64 0]] W fun e w' => ∃ A m c y, e = .returned (.tuple #[.slice A m c, .int .i64 0]) ∧ Held K w w' n y ∧ Touch (fun b => ¬ K b) W w' ∧ y.left = s.kept ++ s.wait ∧ y.conn.state = 4 ∧ y.ep = none ∧ y.lacks = false ∧ En.Fit y hi lo2 := by
 have h4 := h.request (kd := 3) (d := Cn.no) (m := 0) fun hin => nrequest_conn hin hf (by rw [h2]; exact Nat.zero_le _) 3 Cn.no 0 (Nat.zero_le _) (by decide) (by
  have e2 : Ru.may x.conn.state 3 = true := by rw [h1]; decide +kernel
  unfold Cn.askErr
  rw [if_neg (by decide), if_neg (by decide +kernel), if_pos e2])
 obtain ⟨y, sg, g1, g2, g3, g4, g5, g6⟩ := release h1 he hf
 rw [g1] at h4
 refine h4.mono ?_
 rintro e w' ⟨A, c, rfl, q1, -, q2, -⟩
 exact ⟨A, _, c, y, rfl, q1, q2, g2, g3, g4, g5, g6⟩
theorem retr_l (h : Held K w W n x) {hi2 : Int} (hf : En.Fit x hi hi2) (h1 : x.conn.state = 4) (he : x.ep = none) (hl : x.lacks = false) (hn : x.left.length <= 1000000) : Calls Tryz.prog 12 #[.pointer (some ⟨n, 0, none⟩), .agg #[.int .i64 11, .string { data := #[] }, .int .i64 0]] W fun e w' => ∃ A c, e = .returned (.tuple #[.slice A x.left.length c, .int .i64 0]) ∧ Held (fun b => K b ∨ A.map Addr.block = some b) w w' n { x with left := [] } ∧ Sl sigE w' A c (x.left.map (En.msg 11)) ∧ Touch (fun b => ¬ K b) W w' := by
 have h4 := h.requestK (kd := 11) (d := Cn.no) (m := 0) fun hin => nrequest_of hin hf hn 11 Cn.no 0 fun _ _ h0 _ => nask_retr h0 hn Cn.no 0
 rw [retr h1 he hl] at h4
 refine h4.mono ?_
 rintro e w' ⟨A, c, rfl, g1, g2, g3⟩
 exact ⟨A, c, by simp, g1, g2, g3⟩
end
end Lf
theorem nodeLeft.core (x0 x1 x2 x3 x4 x5 : Int) (A : Option Addr) (c : Nat) (L : List Int) (Am : Option Addr) (cm : Nat) (M : List ByteArray) (ack : Int) (w : World) (h : Rd intE w A c L) (hM : Rd strE w Am cm M) :
  Calls Tryz.prog 4 #[.agg #[.int .i64 x0, .int .i64 x1, .int .i64 x2, .int .i64 x3, .int .i64 x4, .int .i64 x5, .slice A L.length c], .slice Am M.length cm, .int .i64 ack] w fun e w' => e = .returned (.bool true) ∧ Fresh w w' := by
 have HR := lh h
 have HM := lh hM
 have HCU : Hid (∀ v W, Calls Tryz.prog 11 #[.string v, .int .i64 5] W fun e w' => e = .returned (.string (cutN v 5)) ∧ w' = W) := fun v W => cutN_any v 5 (by decide) W
 have HOP : Hid (∀ W, Fresh w W -> Calls Tryz.prog 7 #[.agg #[.int .i64 x0, .int .i64 x1, .int .i64 x2, .int .i64 x3, .int .i64 x4, .int .i64 x5, .slice A L.length c]] W fun e w' => ∃ m X x lo q, e = .returned (.tuple #[.pointer (some ⟨m, 0, none⟩), .agg (Rn.cells X).toArray]) ∧ Held NK w w' m x ∧ (Lf.L lo lo q x [] ∧ Lf.N0 x ∧ X.y2 = (q : Int) ∧ q <= 256) ∧ Fresh W w') := fun W hW => by
  refine (held_opened x0 x1 x2 x3 x4 x5 A c L w W (HR.out.touch hW (fun _ _ _ e => e)) hW).mono ?_
  rintro e w' ⟨m, q, X, rfl, hq, hx, hh, hf⟩
  have hu := hq.queue
  have h1 : 1 <= q.queue ∧ q.queue <= 256 := by omega
  obtain ⟨g1, g2⟩ := Lf.L.opened h1 ((x5 % 16777216 + 31) % 16777216)
  exact ⟨m, X, _, _, q.queue.toNat, rfl, hh, ⟨g1, g2, by omega, by omega⟩, hf⟩
 clear h hM HR
 obtain ⟨cin, hcin⟩ : ∃ cin : List Value, cin = [.int .i64 x0, .int .i64 x1, .int .i64 x2, .int .i64 x3, .int .i64 x4, .int .i64 x5, .slice A L.length c] := ⟨_, rfl⟩
 have hcin2 : cin.toArray = #[.int .i64 x0, .int .i64 x1, .int .i64 x2, .int .i64 x3, .int .i64 x4, .int .i64 x5, .slice A L.length c] := by rw [hcin]
 have HCL : Hid (cin.length = 7) := by rw [hcin]; rfl
 rw [<- hcin2] at HOP ⊢
 obtain ⟨w1, hw1⟩ := xq (w.alloc (.cells cin.toArray 24))
 obtain ⟨bc, hbc⟩ := xq w.heap.size
 have HB1 : Hid (Blk w1 bc 24 cin) := by rw [hw1, hbc]; exact Blk.new w _ _
 have HF1 : Hid (Fresh w w1) := by rw [hw1]; exact (Touch.refl _ _).alloc _
 clear hcin hcin2
 have HAW := lh awake16
 go_enter Tryz.func4, Tryz.ntmps4
 go_upto_region 1 with (fail)
 rw [<- hw1, <- hbc]
 clear hw1 hbc
 go_wp2_with fail
 refine (HAW.out _).mono ?_
 rintro e w2 ⟨rfl, f2⟩
 have HB2 := lh (f2.blk HB1.out (fun e => e))
 have HF2 := lh (HF1.out.trans f2 (fun _ _ e => e))
 clear f2 HB1 HF1 HAW
 simp only
 go_upto_region 3 with (fail)
 refine wp_region_lit ?_
 refine wpList_loadB rfl _ (.tmp 3) rfl bc 0 (by rfl) cin HB2.out.range Tryz.underlying24 rfl (by rw [HCL.out]; exact cfI) ?_
 go_wp2_with fail
 refine (HOP.out _ HF2.out).mono ?_
 rintro e w3 ⟨n, X, x, lo, q, rfl, hh, ⟨hg, h0, hx, hqq⟩, hf⟩
 have HH := lh hh
 have HG := lh hg
 have H0 := lh h0
 have HXQ := lh hx
 have HQQ := lh hqq
 clear hh hg h0 hx hf hqq HOP HB2 HF2 HCL
 simp only
 go_upto_region 4 with (refine stN rfl (.tmp 8) (.tmp 34) rfl (by rfl) X (by rfl) (Blk.new w3 40 rnZ) rfl ?_; intro w4 hB ht; have HB8 : Hid (Blk w4 w3.heap.size 40 X.cells) := hB; have HF4 : Hid (Fresh w3 w4) := ((Touch.refl _ w3).alloc (.cells rnZ.toArray 40)).trans ht (fun b hb e => by have e : b = w3.heap.size := e; omega); clear hB ht)
 obtain ⟨b8, hb8⟩ := xq w3.heap.size
 rw [<- hb8] at HB8 ⊢
 have HH4 : Hid (Held (KA b8 none) w w4 n x) := HH.out.put HF4.out (fun _ e => e.elim) (fun b e => .inr (by rcases e with e | e; (subst e; exact ⟨Nat.le_of_eq hb8.symm, HB8.out.lt⟩); cases e))
 clear HH HF4 hb8
 have HX2 : Hid (∀ wx, Blk wx b8 40 (Rn.cells X) -> wx.cell? ⟨b8, 2, none⟩ = some (.int .i64 (q : Int))) := fun wx h => by rw [<- HXQ.out]; exact h.cell 2
 clear HXQ
 generalize Rn.cells X = XC at *
 go_upto_block 0 with (fail)
 go_cut [9] (fun v wx => ∃ asked A ca, v = .slice A (List.length asked) ca ∧ Hid (∃ x, Lf.L lo lo q x asked ∧ Held (KA b8 A) w wx n x) ∧ Hid (Sl strE wx A ca asked) ∧ Hid (Blk wx b8 40 XC))
 case first =>
  go_wp2_with fail
  go_loopw [10, 9] (fun i v wr => ∃ (k : Nat) (asked : List ByteArray) (A : Option Addr) (ca : Nat), k <= 300 ∧ i = .int .i64 k ∧ v = .slice A asked.length ca ∧ Hid (∃ x, Lf.L lo lo q x asked ∧ Lf.N0 x ∧ Held (KA b8 A) w wr n x) ∧ Hid (Sl strE wr A ca asked) ∧ Hid (Blk wr b8 40 XC)) (fun i _ _ => 300 - (intOf i).toNat)
  case atStart => exact ⟨0, [], none, 0, by omega, rfl, rfl, ⟨x, HG.out, H0.out, HH4.out⟩, Sl.nil _ _, HB8.out⟩
  case round =>
   clear HG H0 HH4 HB8
   obtain ⟨k, asked, A, ca, hk, rfl, rfl, HK, HSL, HB⟩ := hrel
   by_cases hlt : k < M.length ∧ k < 300
   ·obtain ⟨hl1, hl2⟩ := hlt
    have hk1 : (k : Int) < (M.length : Int) := by omega
    have hdk1 : decide ((k : Int) < (M.length : Int)) = true := decide_eq_true hk1
    have hk2 : (k : Int) < 300 := by omega
    have hdk2 : decide ((k : Int) < 300) = true := decide_eq_true hk2
    have hk0 : (0 : Int) <= (k : Int) := by omega
    obtain ⟨x, hu, h0, hh⟩ := HK.out
    obtain ⟨g, o, hAe, _, c0⟩ := (HM.out.touch hh.fresh (fun _ _ _ h => h)).str_at k hl1
    generalize M.getD k ByteArray.empty = v at c0
    rw [hAe]
    have HAE := lh hAe
    have HAL : Hid (asked.length <= 256) := by have h1 := hu.al; have h2 := HQQ.out; unfold Hid; omega
    have HD : Hid ((cutN v 5).size <= 5) := cutN_size v 5
    have HRQ := lh (Lf.ask_data hh hu h0 HD.out)
    clear hAe hh hu h0 HK hl1
    go_upto_region 11 with (go_at_call 11; (with_reducible refine (HCU.out v _).mono ?_); rintro e w6 ⟨rfl, rfl⟩; simp only)
    generalize cutN v 5 = d at *
    clear c0
    go_upto_region 12 with (go_at_call 12; (with_reducible refine HRQ.out.mono ?_); rintro e w6 ⟨A1, l1, c1, er, x1, rfl, h1, h2, h3, h4⟩; have HH1 := lh h1; have HS1 := lh (HSL.out.touch h2 (fun ad e e2 => e2 (.inr (by rw [e]; rfl)))); have HB1 := lh (h2.blk HB.out (fun e => e (.inl rfl))); have HN1 := lh h3; have HL1 := lh h4; clear h1 h2 h3 h4; simp only)
    clear HRQ HSL HB
    by_cases her : er = 0
    ·subst her
     have HNA : Hid (¬ A.map Addr.block = some b8) := fun e => by
      cases A with
      |none => cases e
      |some ad =>
       injection e with e
       exact HS1.out.blk_ne HB1.out (show strE.e ≠ 40 by decide) ad rfl e
     go_wp2_with (at_builtin; refine app_str rfl rfl (l := asked) (l2 := [d]) rfl rfl (HS1.out.alloc _) (Sl.rd (Sl.lit strE w6 _ rfl _ [d] rfl 1 rfl (by decide))) (by have := HAL.out; simp; omega) ?_; intro A4 c4 L4 w8 hL4 hs4 ht4 hB4; have HH4 := lh ((HH1.out.old ((Touch.refl _ w6).alloc _)).app hs4 ht4 hB4); have HS4 := lh hs4; have HB4 := lh (ht4.blk (Touch.blk ((Touch.refl (fun _ => False) w6).alloc _) HB1.out (fun e => e)) HNA.out); have HU4 : Hid (Lf.L lo lo q x1 L4) := (by rw [hL4.out]; exact HL1.out); clear hL4 hs4 ht4 hB4)
     go_roundw
     case rel => exact ⟨k + 1, L4, A4, c4, by omega, by go_num, rfl, ⟨x1, HU4.out, HN1.out, HH4.out⟩, HS4, HB4⟩
     case measure => simp [intOf]; omega
    ·have heb : (er == 0) = false := beq_eq_false_iff_ne.2 her
     have HU4 : Hid (Lf.L lo lo q x1 asked) := by have := HL1.out; rw [if_neg her] at this; exact this
     clear her HL1
     go_wp2_with fail
     go_roundw
     case rel => exact ⟨k + 1, asked, A, ca, by omega, by go_num, rfl, ⟨x1, HU4.out, HN1.out, HH1.out⟩, HS1, HB1⟩
     case measure => simp [intOf]; omega
   ·have HK2 : Hid (∃ x, Lf.L lo lo q x asked ∧ Held (KA b8 A) w wr n x) := by obtain ⟨x, h1, -, h2⟩ := HK.out; exact ⟨x, h1, h2⟩
    by_cases hl1 : (k : Int) < (M.length : Int)
    ·have hk2 : ¬ (k : Int) < 300 := by omega
     have hdk1 : decide ((k : Int) < (M.length : Int)) = true := decide_eq_true hl1
     have hdk2 : decide ((k : Int) < 300) = false := decide_eq_false hk2
     go_wp2_with fail
     go_meet
     case rel => exact ⟨asked, A, ca, rfl, HK2, HSL, HB⟩
    ·have hdk1 : decide ((k : Int) < (M.length : Int)) = false := decide_eq_false hl1
     go_wp2_with fail
     go_meet
     case rel => exact ⟨asked, A, ca, rfl, HK2, HSL, HB⟩
 case rest =>
 clear HG H0 HH4 HB8 HM HCU
 obtain ⟨asked, A, ca, rfl, HK, HSL, HB⟩ := hcut
 generalize wc = w5 at *
 go_upto_block 2 with (fail)
 go_cut [15] (fun v wx => ∃ x hi, Hid (Lf.L lo hi q x asked ∧ hi <= lo + 401) ∧ Hid (Held (KA b8 A) w wx n x) ∧ Hid (Sl strE wx A ca asked) ∧ Hid (Blk wx b8 40 XC))
 case first =>
  go_wp2_with fail
  go_loopw [65] (fun i wr => ∃ (k : Nat) (x : En.X), k <= 400 ∧ i = .int .i64 k ∧ Hid (Lf.L lo (lo + k) q x asked) ∧ Hid (Held (KA b8 A) w wr n x) ∧ Hid (Sl strE wr A ca asked) ∧ Hid (Blk wr b8 40 XC)) (fun i _ => 400 - (intOf i).toNat)
  case atStart =>
   obtain ⟨x, h1, h2⟩ := HK.out
   exact ⟨0, x, by omega, rfl, by rw [show lo + ((0 : Nat) : Int) = lo by omega]; exact h1, h2, HSL.out, HB.out⟩
  case round =>
   clear HK HSL HB
   obtain ⟨k, x, hk, rfl, HLL, HH, HS, HB⟩ := hrel
   by_cases hl : k < 400
   ·have hk1 : (k : Int) < 400 := by omega
    have hk0 : (0 : Int) <= (k : Int) := by omega
    have HN := lh (Lf.next_l HH.out HLL.out (by omega))
    clear HLL HH
    go_upto_region 17 with (go_at_call 14; (with_reducible refine HN.out.mono ?_); rintro e w6 ⟨u', b, x', rfl, h1, h2, h3⟩; have HH1 := lh h1; have HS1 := lh (HS.out.touch h2 (fun ad e e2 => e2 (.inr (by rw [e]; rfl)))); have HB1 := lh (h2.blk HB.out (fun e => e (.inl rfl))); have HL1 := lh h3; clear h1 h2 h3; unfold pduV; simp only)
    clear HN HS HB
    have hfr : ∀ o, Fresh w6 (w6.alloc o) := fun o => (Touch.refl _ _).alloc _
    cases b
    ·go_wp2_with fail
     go_meet
     case rel => exact ⟨x', lo + k + 1, ⟨HL1.out, by omega⟩, HH1.out.old (hfr _), HS1.out.touch (hfr _) (fun _ _ e => e), (hfr _).blk HB1.out (fun e => e)⟩
    ·go_wp2_with fail
     go_roundw
     case rel => exact ⟨k + 1, x', by omega, by go_num, by rw [show lo + ((k + 1 : Nat) : Int) = lo + k + 1 by omega]; exact HL1.out, HH1.out.old (hfr _), HS1.out.touch (hfr _) (fun _ _ e => e), (hfr _).blk HB1.out (fun e => e)⟩
     case measure => simp [intOf]; omega
   ·obtain rfl : k = 400 := by omega
    rw [show ((400 : Nat) : Int) = 400 from rfl]
    go_wp2_with fail
    go_meet
    case rel => exact ⟨x, lo + 400, ⟨HLL.out, by omega⟩, HH, HS, HB⟩
 case rest =>
 clear HK HSL HB
 obtain ⟨x, hi, HLL, HH, HS, HB⟩ := hcut
 generalize wc = w6 at *
 obtain ⟨s, r, he, hag, -, hkw, -⟩ := HLL.out.1.ep
 have hso : Sf.Ok s (x.c.start % 16777216) hi := (HLL.out.1.fit.ep _ he).1
 have HVA := lh (HH.out.vars (fun e h => by rw [he] at h; injection h with h; subst h; rw [hag]; exact Nat.zero_le _))
 have HFS := lh (fun A c W => Lf.vars_snd x (s, r) he A c W)
 have HKL : Hid (((Sf.prog s).m.length : Int) = (s.kept.length : Int)) := by
  show ((Sf.pm s.a s.kept s.last).length : Int) = _
  rw [Sf.pm_len _ _ _ hso.llen]
 have HKN : Hid ((s.kept.length : Int) <= 4000) := by have h1 := hso.klen; have h2 := hso.la; have h3 := hso.shi; have h4 := HLL.out.1.st; have h5 := HLL.out.2; unfold Hid; omega
 have HE := lh he
 have HKW := lh hkw
 have HAL : Hid (asked.length <= q) := HLL.out.1.al
 clear he hag hkw hso
 go_upto_region 19 with (fail)
 go_wp2_with fail
 refine HVA.out.mono ?_
 rintro e wa ⟨A', c', rfl, hfa⟩
 have HHa := lh (HH.out.old hfa)
 have HSa := lh (HS.out.touch hfa (fun _ _ e => e))
 have HBa := lh (hfa.blk HB.out (fun e => e))
 have fs := fun W => HFS.out A' c' W
 clear hfa HVA HH HS HB HFS
 generalize (En.varsC x A' c').toArray = VV at fs ⊢
 simp only
 go_upto_region 20 with (refine wpList_storeB rfl _ (.tmp 16) (.tmp 77) rfl wa.heap.size 0 (by rfl) (En.sendV (Sf.prog s) A' c') (by rfl) (Blk.new wa 67 Lf.sZ) (Nat.le_of_ble_eq_true rfl) Lf.sendI (by simp [En.sendV, Value.oneCell']) ?_; intro wb hB ht; have HBV : Hid (Blk wb wa.heap.size 67 (En.sendV (Sf.prog s) A' c')) := hB.eq_cells rfl; have HFB : Hid (Fresh wa wb) := ((Touch.refl _ wa).alloc (.cells Lf.sZ.toArray 67)).trans ht (fun b hb e => by have e : b = wa.heap.size := e; omega); clear hB ht)
 obtain ⟨bv, hbv⟩ := xq wa.heap.size
 rw [<- hbv] at HBV ⊢
 have HHb : Hid (Held (fun b => KA b8 A b ∨ b = bv) w wb n x) := HHa.out.put HFB.out (fun _ e => e.elim) (fun b e => e.elim .inl (fun e => .inr (by have h1 := HBV.out.lt; omega)))
 have HSb := lh (HSa.out.touch HFB.out (fun _ _ e => e))
 have HBb := lh (HFB.out.blk HBa.out (fun e => e))
 clear HHa HSa HBa HFB hbv fs
 have v1 : wb.cell? ⟨bv, 1, none⟩ = some (.int .u32 (s.a % 16777216)) := HBV.out.cell 1
 have v7 : wb.cell? ⟨bv, 7, none⟩ = some (.int .i64 (s.kept.length : Int)) := by rw [<- HKL.out]; exact HBV.out.cell 7
 obtain ⟨M0, hM0⟩ := qx (max ack 0)
 obtain ⟨K0, hK0⟩ := qx (min M0 (s.kept.length : Int))
 obtain ⟨k, hk⟩ : ∃ k : Nat, K0 = (k : Int) := ⟨K0.toNat, by omega⟩
 have HKK : Hid (k <= s.kept.length) := by unfold Hid; omega
 subst hk
 go_upto_region 21 with (fail)
 clear hM0 hK0 v7
 have v2 : wb.cell? ⟨bv, 2, none⟩ = some (.int .u32 (s.ms % 16777216)) := HBV.out.cell 2
 have v4 : wb.cell? ⟨bv, 4, none⟩ = some (.int .u32 (s.pa % 16777216)) := HBV.out.cell 4
 have hk0 : (0 : Int) <= (k : Int) := by omega
 have HAD : Hid (∀ W, Calls Tryz.prog 16 #[.int .u32 (s.a % 16777216), .int .i64 (k : Int)] W fun e w' => e = .returned (.int .u32 ((s.a + k) % 16777216)) ∧ w' = W) := fun W => by
  have := sadd_any (s.a % 16777216) (k : Int) W
  rw [show (s.a % 16777216 + (k : Int)) % 16777216 = (s.a + k) % 16777216 by omega] at this
  exact this
 have HCB : Hid (∀ W, Fresh wb W -> W.cell? ⟨bv, 1, none⟩ = some (.int .u32 (s.a % 16777216)) ∧ W.cell? ⟨bv, 2, none⟩ = some (.int .u32 (s.ms % 16777216)) ∧ W.cell? ⟨bv, 4, none⟩ = some (.int .u32 (s.pa % 16777216))) := fun W f => by
  have h := f.blk HBV.out (fun e => e)
  exact ⟨h.cell 1, h.cell 2, h.cell 4⟩
 have HRC : Hid (∀ W, Fresh wb W -> Calls Tryz.prog 13 #[.pointer (some ⟨n, 0, none⟩), .agg #[.int .i64 11, .int .i64 0, .int .u32 ((s.a + k) % 16777216), .int .u32 (s.pa % 16777216), .int .u32 (s.ms % 16777216), .slice none 0 0, .bool false, .string { data := #[] }]] W (Lf.A4 (fun b => KA b8 A b ∨ b = bv) w W n lo hi (asked.drop k))) := fun W hW => Lf.ack_l (HHb.out.old hW) HLL.out.1 HE.out HKK.out (by have := HLL.out.2; omega)
 have HCB2 : Hid (∀ W W', Fresh wb W -> Touch (fun b => ¬ (KA b8 A b ∨ b = bv)) W W' -> W'.cell? ⟨bv, 1, none⟩ = some (.int .u32 (s.a % 16777216)) ∧ W'.cell? ⟨bv, 2, none⟩ = some (.int .u32 (s.ms % 16777216)) ∧ W'.cell? ⟨bv, 4, none⟩ = some (.int .u32 (s.pa % 16777216))) := fun W W' f t => by
  have h := t.blk (f.blk HBV.out (fun e => e)) (fun e => e (.inr rfl))
  exact ⟨h.cell 1, h.cell 2, h.cell 4⟩
 generalize (s.a + (k : Int)) % 16777216 = u1 at *
 generalize s.a % 16777216 = u0 at *
 generalize s.ms % 16777216 = u2 at *
 generalize s.pa % 16777216 = u4 at *
 have FD : Fresh wb wb.drew := (Touch.refl _ _).drew
 go_region_held3 (fun wx => wx.cell? ⟨bv, 1, none⟩ = some (.int .u32 u0) ∧ wx.cell? ⟨bv, 2, none⟩ = some (.int .u32 u2) ∧ wx.cell? ⟨bv, 4, none⟩ = some (.int .u32 u4))
  (first
   |assumption
   |exact HCB.out _ FD
   |exact HCB2.out _ _ FD h1)
  (first
   |(go_simp; go_at_call 16; (with_reducible refine (HAD.out _).mono ?_); rintro e wx ⟨rfl, rfl⟩)
   |(go_simp; go_at_call 13; (with_reducible refine (HRC.out _ FD).mono ?_); rintro e wx ⟨⟨A3, c3, m3, rfl⟩, h1, h2⟩))
 all_goals
  clear HCB HCB2 HRC HAD v1 v2 v4
  obtain ⟨y, s2, r2, g1, g2, g3, g4, g5, g6, g7⟩ := h2
  have HHy : Hid (Held (KA b8 A) w wx n y) := g1.mono (fun _ e => .inl e)
  have HSy := lh ((HSb.out.touch FD (fun _ _ e => e)).touch h1 (fun ad e e2 => e2 (.inl (.inr (by rw [e]; rfl)))))
  have HBy := lh (h1.blk (FD.blk HBb.out (fun e => e)) (fun e => e (.inl (.inl rfl))))
  have HRT := lh (Lf.retr_0 HHy.out g5 g3 g4 g2)
  have HG3 := lh g3
  have HG4 := lh g4
  have HG5 := lh g5
  have HG6 := lh g6
  have HG7 := lh g7
  have HKQ : Hid (k <= asked.length) := by have h2 := HKW.out; have h3 := HKK.out; rw [<- h2, List.length_append]; unfold Hid; omega
  clear g1 g2 g3 g4 g5 g6 g7 h1 FD HHy HSb HBb HHb HBV HKW HKK HKN HKL HE HLL
  generalize wx = wy at *
  go_upto_region 23 with (go_at_call 12; (with_reducible refine HRT.out.mono ?_); rintro e w7 ⟨A5, c5, rfl, h1, h2⟩; have HH7 := lh h1; have HS7 := lh (HSy.out.touch h2 (fun ad e e2 => e2 (.inr (by rw [e]; rfl)))); have HB7 := lh (h2.blk HBy.out (fun e => e (.inl rfl))); clear h1 h2; simp only)
  have HRL := lh (Lf.release_l HH7.out HG5.out HG3.out HG4.out HG6.out)
  clear HRT HSy HBy HH7 HG3 HG4 HG5 HG6
  go_upto_region 25 with (fail)
  go_upto_region 26 with (go_at_call 12; (with_reducible refine HRL.out.mono ?_); rintro e w8 ⟨A6, m6, c6, y2, rfl, h1, h2, l1, l2, l3, l4, l5⟩; have HH8 := lh h1; have HS8 := lh (HS7.out.touch h2 (fun ad e e2 => e2 (.inr (by rw [e]; rfl)))); have HB8 := lh (h2.blk HB7.out (fun e => e (.inl rfl))); have HL1 := lh l1; have HL2 := lh l2; have HL3 := lh l3; have HL4 := lh l4; have HL5 := lh l5; clear h1 h2 l1 l2 l3 l4 l5; simp only)
  clear HRL HS7 HB7
  have HLF : Hid (y2.left = asked.drop k) := by show _ = _; rw [HL1.out, HG7.out]
  have hln : ((y2.left.length : Nat) : Int) = (asked.length : Int) - (k : Int) := by rw [HLF.out, List.length_drop]; have := HKQ.out; omega
  have HV := lh (HH8.out.vars (fun e he => by rw [HL3.out] at he; cases he))
  have fv := fun A c W => Lf.vars_left y2 A c W
  rw [hln] at fv
  have ha0 : (0 : Int) <= (asked.length : Int) := by omega
  have ha1 : (asked.length : Int) <= 256 := by have := HAL.out; have := HQQ.out; omega
  have ha2 : (k : Int) <= (asked.length : Int) := by have := HKQ.out; omega
  have HLN := lh hln
  clear hln HL1 HG7
  go_upto_region 28 with (go_at_call 15; (with_reducible refine HV.out.mono ?_); rintro e w9 ⟨A', c', rfl, f3⟩; have HH9 := lh (HH8.out.old f3); have HS9 := lh (HS8.out.touch f3 (fun _ _ e => e)); have HB9 := lh (f3.blk HB8.out (fun e => e)); clear f3; simp only)
  clear fv HV HH8 HS8 HB8
  have HR1 := lh (Lf.retr_l HH9.out HL5.out HL2.out HL3.out HL4.out (by have h1 := HLN.out; omega))
  clear HH9
  go_upto_region 29 with (go_at_call 12; (with_reducible refine HR1.out.mono ?_); rintro e wa ⟨A7, c7, rfl, h1, h2, h3⟩; have HHa := lh h1; have HGa := lh h2; have HSa := lh (HS9.out.touch h3 (fun ad e e2 => e2 (.inr (by rw [e]; rfl)))); have HBa := lh (h3.blk HB9.out (fun e => e (.inl rfl))); clear h1 h2 h3; simp only)
  have HR2 : Hid (Calls Tryz.prog 12 #[.pointer (some ⟨n, 0, none⟩), .agg #[.int .i64 11, .string { data := #[] }, .int .i64 0]] wa fun e w' => ∃ A' c', e = .returned (.tuple #[.slice A' 0 c', .int .i64 0]) ∧ Fresh w w' ∧ Touch (fun b => ¬ (KA b8 A b ∨ A7.map Addr.block = some b)) wa w') := by
   have hf : En.Fit { y2 with left := [] } hi (lo + 64) := ⟨HL5.out.nd, HL5.out.ks, HL5.out.b1, HL5.out.b2, HL5.out.ep, HL5.out.st⟩
   refine (Lf.retr_l HHa.out hf HL2.out HL3.out HL4.out (Nat.zero_le _)).mono ?_
   rintro e w' ⟨A8, c8, rfl, h1, -, h3⟩
   exact ⟨A8, c8, rfl, h1.fresh, h3⟩
  clear HR1 HS9 HB9 HHa
  go_upto_region 30 with (go_at_call 12; (with_reducible refine HR2.out.mono ?_); rintro e wb2 ⟨A8, c8, rfl, h1, h3⟩; have HFb := lh h1; have HGb := lh (HGa.out.touch h3 (fun ad e e2 => e2 (.inr (by rw [e]; rfl)))); have HSb := lh (HSa.out.touch h3 (fun ad e e2 => e2 (.inl (.inr (by rw [e]; rfl))))); have HBb := lh (h3.blk HBa.out (fun e => e (.inl (.inl rfl)))); clear h1 h3; simp only)
  clear HR2 HGa HSa HBa
  have q2 : wb2.cell? ⟨b8, 2, none⟩ = some (.int .i64 (q : Int)) := HX2.out _ HBb.out
  have haq : ¬ ((q : Int) < (asked.length : Int)) := by have := HAL.out; omega
  rw [HLF.out] at HLN HGb ⊢
  generalize hlf : asked.drop k = lf at *
  have HDR := lh hlf
  have hln := HLN.out
  clear hlf HLF HLN HL2 HL3 HL4 HL5
  go_upto_region 32 with (fail)
  clear q2 haq HBb HX2 HAL HQQ HKQ
  have HFS : Hid (Fresh w wb2) := HFb.out
  go_upto_block 4 with (fail)
  go_wp2_with fail
  go_loopw [163] (fun i wr => ∃ j : Nat, j <= lf.length ∧ i = .int .i64 j ∧ Hid (Fresh wb2 wr)) (fun i _ => lf.length - (intOf i).toNat)
  case atStart => exact ⟨0, by omega, rfl, Touch.refl _ _⟩
  case round =>
   obtain ⟨j, hj, rfl, HFR⟩ := hrel
   by_cases hl : j < lf.length
   ·have hj1 : (j : Int) < (lf.length : Int) := by omega
    have hj0 : (0 : Int) <= (j : Int) := by omega
    have hla : k + j < asked.length := by omega
    have hla2 : (k : Int) + (j : Int) < (asked.length : Int) := by omega
    have hla0 : (0 : Int) <= (k : Int) + (j : Int) := by omega
    have hs1 : ((k : Int) + (j : Int)).toNat = k + j := by omega
    obtain ⟨gA, oA, hA, hgA, hc⟩ := (HGb.out.touch HFR.out (fun _ _ e => e)).rd.psig_at j (by rw [List.length_map]; exact hl)
    rw [List.getElem_map] at hc
    obtain ⟨gS, oS, hS, hgS, c0⟩ := (HSb.out.touch HFR.out (fun _ _ e => e)).rd.str_at (k + j) hla
    have hdd : asked.getD (k + j) ByteArray.empty = lf[j] := by
     have h1 := HDR.out
     subst h1
     simp [List.getD, List.getElem?_eq_getElem hla]
    rw [hdd] at c0
    clear hdd
    generalize lf[j] = d at *
    have y0 : wr.cell? ⟨gA, oA + j * 5, none⟩ = some (.int .i64 11) := by have := hc 0 _ rfl; simpa [Nat.add_assoc, En.msg] using this
    have y1 : wr.cell? ⟨gA, oA + j * 5 + 1, none⟩ = some (.string d) := by have := hc 1 _ rfl; simpa [Nat.add_assoc, En.msg] using this
    have y2 : wr.cell? ⟨gA, oA + j * 5 + 2, none⟩ = some (.bool false) := by have := hc 2 _ rfl; simpa [Nat.add_assoc, En.msg] using this
    have y3 : wr.cell? ⟨gA, oA + j * 5 + 3, none⟩ = some (.int .u8 0) := by have := hc 3 _ rfl; simpa [Nat.add_assoc, En.msg] using this
    have y4 : wr.cell? ⟨gA, oA + j * 5 + 4, none⟩ = some (.int .i64 0) := by have := hc 4 _ rfl; simpa [Nat.add_assoc, En.msg] using this
    have c1 : ∀ o, (wr.alloc o).cell? ⟨gS, oS + (k + j), none⟩ = some (.string d) := fun o => (World.cell?_of_block (Below.heap_alloc wr o gS hgS)).trans c0
    have hq := eqSig16
    have HFA : Hid (∀ o n, Fresh wb2 ((wr.alloc o).drewN n)) := fun o n => (HFR.out.alloc o).drewN n
    rw [hA, hS]
    have HAE := lh hA
    have HSE := lh hS
    clear hA hS hc HFR c0
    go_upto_region 35 with (fail)
    go_quiet (fail)
    go_wp2
    go_roundw
    case rel => exact ⟨j + 1, by omega, by go_num, HFA.out _ _⟩
    case measure => simp [intOf]; omega
   ·have hld : decide ((j : Int) < (lf.length : Int)) = false := decide_eq_false (by omega)
    go_wp2_with fail
    go_ret
    exact ⟨rfl, HFS.out.trans HFR.out (fun _ _ e => e)⟩
end Go.Proofs.YtipaobpmojahaaaGreat
