/-
  pdu.Parse of a unit's bytes.
-/
import Derived.Test.YtpifgpmjnjbecaaDoorTld6
namespace Go.Proofs.YtpifgpmjnjbecaaDoor
open Go.RowKit

def zC : List Value := [.int .i64 0, .int .i64 0, .int .u32 0, .int .u32 0, .int .u32 0, .slice none 0 0, .bool false, .string ⟨#[]⟩]
def shC (s : Wh.Sh) : List Value := [.int .i64 s.data, .bool s.sq, .bool s.n, .int .i64 s.list, .bool s.ps, .bool s.mr, .bool s.self, .bool s.is]
/-- Parse's own memory. -/
structure PS (w : World) (rb tb pb sb : Nat) (sh : Wh.Sh) (wx : World) (tl : List UInt8) (cs : List Value) : Prop where
  t : Blk wx tb 81 [.string (Wh.B tl)]
  p : Blk wx pb 32 cs
  r : Blk wx rb 32 zC
  s : Blk wx sb 61 (shC sh)
  f : Fresh w wx
structure PN (w : World) (rb tb pb sb : Nat) : Prop where
  tp : tb ≠ pb
  tr : tb ≠ rb
  ts : tb ≠ sb
  rp : rb ≠ pb
  sp : sb ≠ pb
  t : w.heap.size ≤ tb
  p : w.heap.size ≤ pb
  r : w.heap.size ≤ rb
section
variable {w wx wy : World} {rb tb pb sb : Nat} {sh : Wh.Sh} {tl tl' : List UInt8} {cs cs' : List Value}
theorem PS.take (n : PN w rb tb pb sb) (h : PS w rb tb pb sb sh wx tl cs) (hb : Blk wy tb 81 [.string (Wh.B tl')]) (ht : Touch (· = tb) wx wy) : PS w rb tb pb sb sh wy tl' cs :=
  ⟨hb, ht.blk h.p n.tp.symm, ht.blk h.r n.tr.symm, ht.blk h.s n.ts.symm, h.f.trans ht (fun k hk e => by have := n.t; have e : k = tb := e; omega)⟩
theorem PS.set (n : PN w rb tb pb sb) (h : PS w rb tb pb sb sh wx tl cs) (i : Nat) (v : Value) : PS w rb tb pb sb sh (wx.setCell ⟨pb, i, none⟩ v) tl (cs.set i v) :=
  ⟨h.t.far n.tp v, h.p.set i v, h.r.far n.rp v, h.s.far n.sp v, h.f.setCell (fun hk => by have := n.p; simp at hk; omega) _⟩
theorem PS.fresh (h : PS w rb tb pb sb sh wx tl cs) (f : Fresh wx wy) : PS w rb tb pb sb sh wy tl cs :=
  ⟨f.blk h.t (fun e => e), f.blk h.p (fun e => e), f.blk h.r (fun e => e), f.blk h.s (fun e => e), h.f.trans f (fun _ _ e => e)⟩
theorem PS.far {S : Nat → Prop} (h : PS w rb tb pb sb sh wx tl cs) (ht : Touch S wx wy) (nt : ¬ S tb) (np : ¬ S pb) (nr : ¬ S rb) (ns : ¬ S sb) (hf : ∀ k, S k → w.heap.size ≤ k) : PS w rb tb pb sb sh wy tl cs :=
  ⟨ht.blk h.t nt, ht.blk h.p np, ht.blk h.r nr, ht.blk h.s ns, h.f.trans ht (fun k hk e => by have := hf k e; omega)⟩
theorem PS.list {A : Option Addr} {c : Nat} {L : List Int} (h : PS w rb tb pb sb sh wx tl cs) (m : Mine numE w wx A c L) (ht : Touch (fun k => A.map Addr.block = some k) wx wy) : PS w rb tb pb sb sh wy tl cs := by
  have e : ∀ g t cs, Blk wx g t cs → numE.e ≠ t → ¬ A.map Addr.block = some g := by
    intro g t cs hb hne h
    cases A with
    | none => cases h
    | some ad =>
      injection h with h
      exact m.sl.blk_ne hb hne ad rfl h
  refine h.far ht (e _ _ _ h.t (by decide)) (e _ _ _ h.p (by decide)) (e _ _ _ h.r (by decide)) (e _ _ _ h.s (by decide)) (fun k hk => ?_)
  cases A with
  | none => cases hk
  | some ad =>
    injection hk with hk
    have := m.base ad rfl
    omega
end

theorem wpList_move {P : Program} {ops : Array Oper} {rest : List Oper} {o : Oper} {a : Act} {w : World} {Q : Exit → Act → World → Prop} (hg : o.guard = none) (x : Operand) (ho : o.op = .move x)
    (h : wpList P ops Q rest (a.put o.dst (a.eval x)) w) : wpList P ops Q (o :: rest) a w :=
  wpList_plain hg fun K hK => by
    unfold Oper.wp execOp
    simp only [ho, Sem.run_pure]
    exact hK _ _ h

namespace Wh
def opt (b : Bool) (x : Int) : List Int := if b then [x] else []
theorem opt_len (b : Bool) (x : Int) : ((opt b x).length : Int) = one b := by cases b <;> rfl
theorem wordsS_eq (s : Sh) (p : P) : wordsS s p = opt s.sq p.sq ++ (p.l ++ (opt s.ps p.ps ++ opt s.mr p.mr)) := rfl
end Wh

set_option maxRecDepth 10000 in
set_option maxHeartbeats 4000000 in
theorem parse6_any (p : Wh.P) (A : Option Addr) (c : Nat) (w : World) (hck : Wh.ck p = 0) :
    Calls Tryd.prog 13 #[.string (Wh.B (Wh.bytesS (Wh.shape p.kind) p))] w fun e w' => ∃ A' c', e = .returned (.tuple #[pV p A' c', .int .i64 0]) ∧ Fresh w w' ∧ Rd numE w' A' c' p.l := by
  have hok := Wh.ok_of _ _ hck
  have hsk := Wh.shape_ok p.kind
  have hds := hok.dsize hsk
  have hki := Wh.shape_is _ hok.is
  have hn := hok.n
  have hps := hok.ps
  have hmr := hok.mr
  have HLL := Lib.hid hok.l
  have hll := hok.ll
  have hq0 := hok.sq0
  have hq1 := hok.sq1
  have his := hok.is
  have HPSN := Lib.hid hok.psn
  have HMRN := Lib.hid hok.mrn
  have HSQN := Lib.hid hok.sqn
  have HDN := Lib.hid hok.dnil
  have HLN := Lib.hid hok.ln
  have HSL := Lib.hid hsk.list
  clear hok hsk
  have HTL : Hid (∀ b A c w, Blk w b 32 (pC p A c) → Rd numE w A c p.l → Calls Tryd.prog 38 #[.pointer (some ⟨b, 0, none⟩), .string (Wh.B (Wh.bytesS (Wh.shape p.kind) p))] w fun e w' => e = .returned (.int .i64 0) ∧ Fresh w w') := fun b A c w h1 h2 => told6_any b p A c w h1 h2 hck
  have HSH : Hid (∀ W, Calls Tryd.prog 20 #[.int .i64 p.kind] W fun e w' => e = .returned (shV (Wh.shape p.kind)) ∧ Fresh W w') := fun W => shape6_any p.kind W
  have HBL := Lib.hid (Wh.bytesS_len (Wh.shape p.kind) p)
  have HBS : Hid (Wh.bytesS (Wh.shape p.kind) p = (Wh.front p ++ (Wh.opt (Wh.shape p.kind).sq p.sq ++ (p.l ++ (Wh.opt (Wh.shape p.kind).ps p.ps ++ Wh.opt (Wh.shape p.kind).mr p.mr))).flatMap Wh.four) ++ Wh.four (Wh.lastW p)) := by
    show _ = _
    unfold Wh.bytesS
    rw [Wh.wordsS_eq, List.append_assoc]
  have hwl : (Wh.wordsS (Wh.shape p.kind) p).length = (Wh.opt (Wh.shape p.kind).sq p.sq).length + (p.l.length + ((Wh.opt (Wh.shape p.kind).ps p.ps).length + (Wh.opt (Wh.shape p.kind).mr p.mr).length)) := by
    rw [Wh.wordsS_eq]
    simp only [List.length_append]
  have HWL := Lib.hid hwl
  have HFL := Lib.hid (Wh.front_len p)
  have HF4 := Lib.hid (Wh.front_4 p)
  have hlast : Wh.lastW p = (Wh.pad p : Int) * 1073741824 + (if p.self then 536870912 else 0) + p.kind * 16777216 + p.n := rfl
  have hpl := Wh.pad_lt p
  have HFR : Hid (Wh.front p = p.data.data.toList ++ List.replicate (Wh.pad p) 0) := rfl
  clear hwl hck
  generalize Wh.bytesS (Wh.shape p.kind) p = R at *
  generalize Wh.wordsS (Wh.shape p.kind) p = ws at *
  generalize Wh.lastW p = lw at *
  generalize Wh.front p = fr at *
  generalize Wh.pad p = pd at *
  generalize Wh.shape p.kind = sh at *
  obtain ⟨kind, sq, n, ps, mr, l, self, data⟩ := p
  unfold pC at HTL
  simp only at hds hki hn hps hmr HLL hll hq0 hq1 HPSN HMRN HSQN HDN HLN HTL HSH HBL HBS HWL HFL HFR hlast ⊢
  obtain ⟨hn0, hn1⟩ := hn
  obtain ⟨hk0, hk1⟩ := hki
  have hlw0 : 0 ≤ lw := by rw [hlast]; split <;> omega
  have hlw1 : lw ≤ 4294967295 := by rw [hlast]; split <;> omega
  have hR4 : R.length % 4 = 0 := by
    rw [HBS.out, List.length_append, List.length_append, Wh.fours_len, Wh.four_len]
    have := HF4.out
    omega
  have hRs : R.length ≤ 2000 := by
    rw [HBL.out, HWL.out]
    have e : ∀ (b : Bool) (x : Int), (Wh.opt b x).length ≤ 1 := by intro b x; cases b <;> simp [Wh.opt]
    have e1 := e sh.sq sq
    have e2 := e sh.ps ps
    have e3 := e sh.mr mr
    omega
  have HR1 : Hid (4 ≤ R.length) := by
    show _ ≤ _
    rw [HBL.out]
    omega
  have HFX : Hid (Wh.fixedS sh * 4 ≤ (R.length : Int)) := by
    show _ ≤ _
    rw [HBL.out, HWL.out]
    have e1 := Wh.opt_len sh.sq sq
    have e2 := Wh.opt_len sh.ps ps
    have e3 := Wh.opt_len sh.mr mr
    unfold Wh.fixedS
    rcases HSL.out with h | h | h
    · rw [h]; omega
    · rw [h.1]; omega
    · have := HLN.out (by omega)
      rw [h] at this ⊢
      omega
  have hz : (Wh.B R).size = R.length := Wh.B_size R
  have hne : (Wh.B R).toList.isEmpty = false := by
    rw [Lib.toList_data, Wh.B_list]
    cases h : R with
    | nil => have := HR1.out; rw [h] at this; simp at this
    | cons => rfl
  have hR4i : (R.length : Int) % 4 = 0 := by omega
  have a1 : bits .and .u32 (lw / 16777216) 15 = kind := by
    have := and_mask32 (lw / 16777216) 4 15 rfl (by omega)
    have e : lw / 16777216 % 16 = kind := by rw [hlast]; split <;> omega
    rw [show ((15 + 1 : Nat) : Int) = 16 from rfl, e] at this
    exact this
  have a2 : lw % 16777216 = n := by rw [hlast]; split <;> omega
  have a3 : (bits .and .u32 (lw / 536870912) 1 == 1) = self := by
    have := and_mask32 (lw / 536870912) 1 1 rfl (by omega)
    have e : lw / 536870912 % 2 = (if self then 1 else 0) := by rw [hlast]; split <;> omega
    rw [show ((1 + 1 : Nat) : Int) = 2 from rfl, e] at this
    rw [show ((1 : Nat) : Int) = 1 from rfl] at this
    rw [this]
    cases self <;> rfl
  have a4 : lw / 1073741824 = (pd : Int) := by rw [hlast]; split <;> omega
  have HLW := Lib.hid hlast
  have HLO := Lib.hid (low_any lw)
  rw [a2] at HLO
  clear hlast a2 hR4
  have HBS1 : Hid (Wh.B R = Wh.B ((fr ++ (Wh.opt sh.sq sq ++ (l ++ (Wh.opt sh.ps ps ++ Wh.opt sh.mr mr))).flatMap Wh.four) ++ Wh.four lw)) := by rw [HBS.out]; rfl
  have HFC : Hid (∀ W, Calls Tryd.prog 36 #[shV sh] W fun e w' => e = .returned (.int .i64 (Wh.fixedS sh)) ∧ Fresh W w') := fun W => fixed6_any sh W (by rcases HSL.out with h | h | h <;> omega) (by rcases HSL.out with h | h | h <;> omega)
  obtain ⟨fx, hfx⟩ : ∃ fx, fx = Wh.fixedS sh := ⟨_, rfl⟩
  rw [← hfx] at HFC HFX
  have hfx1 : fx * 4 ≤ (R.length : Int) := HFX.out
  have hfx0 : 0 ≤ fx := by
    rw [hfx]
    unfold Wh.fixedS
    have e : ∀ b, 0 ≤ Wh.one b := by intro b; cases b <;> simp [Wh.one]
    have e1 := e sh.sq
    have e2 := e sh.ps
    have e3 := e sh.mr
    omega
  clear hfx HFX
  obtain ⟨sd, ssq, sn, sl, sps, smr, sself, sis⟩ := sh
  unfold shV at HSH HFC
  simp only at his HSL HPSN HMRN HSQN HDN HLN HSH HWL HBS HBS1 HFC
  subst his
  go_enter Tryd.func13, Tryd.ntmps13
  go_upto_region 4 with (fail)
  obtain ⟨T0, hT0⟩ : ∃ T0, T0 = fr ++ (Wh.opt ssq sq ++ (l ++ (Wh.opt sps ps ++ Wh.opt smr mr))).flatMap Wh.four := ⟨_, rfl⟩
  rw [← hT0] at HBS HBS1
  have HT0 := Lib.hid hT0
  have hT0l : T0.length ≤ 1000000 := by
    have := congrArg List.length HBS.out
    rw [List.length_append, Wh.four_len] at this
    omega
  clear hT0
  have HZ1 : Hid (Blk ((w.alloc (.cells #[.int .i64 0, .int .i64 0, .int .u32 0, .int .u32 0, .int .u32 0, .slice none 0 0, .bool false, .string ⟨#[]⟩] 32)).alloc (.cells #[.string (Wh.B R)] 81)) w.heap.size 32 zC) := (Blk.new w 32 zC).alloc _
  have HT1 : Hid (Blk ((w.alloc (.cells #[.int .i64 0, .int .i64 0, .int .u32 0, .int .u32 0, .int .u32 0, .slice none 0 0, .bool false, .string ⟨#[]⟩] 32)).alloc (.cells #[.string (Wh.B R)] 81)) (w.heap.size + 1) 81 [.string (Wh.B (T0 ++ Wh.four lw))]) := by
    have := Blk.new (w.alloc (.cells #[.int .i64 0, .int .i64 0, .int .u32 0, .int .u32 0, .int .u32 0, .slice none 0 0, .bool false, .string ⟨#[]⟩] 32)) 81 [.string (Wh.B R)]
    rw [show (w.alloc (.cells #[.int .i64 0, .int .i64 0, .int .u32 0, .int .u32 0, .int .u32 0, .slice none 0 0, .bool false, .string ⟨#[]⟩] 32)).heap.size = w.heap.size + 1 by simp] at this
    rw [← HBS1.out]
    exact this
  have HF1 : Hid (Fresh w ((w.alloc (.cells #[.int .i64 0, .int .i64 0, .int .u32 0, .int .u32 0, .int .u32 0, .slice none 0 0, .bool false, .string ⟨#[]⟩] 32)).alloc (.cells #[.string (Wh.B R)] 81))) := ((Touch.refl _ _).alloc _).alloc _
  generalize ((w.alloc (.cells #[.int .i64 0, .int .i64 0, .int .u32 0, .int .u32 0, .int .u32 0, .slice none 0 0, .bool false, .string ⟨#[]⟩] 32)).alloc (.cells #[.string (Wh.B R)] 81)) = w1 at *
  obtain ⟨rb, hrb⟩ : ∃ rb, rb = w.heap.size := ⟨_, rfl⟩
  obtain ⟨tb, htb⟩ : ∃ tb, tb = w.heap.size + 1 := ⟨_, rfl⟩
  rw [← htb] at HT1 ⊢
  rw [← hrb] at HZ1 ⊢
  have HNB : Hid (rb = w.heap.size ∧ tb = w.heap.size + 1) := ⟨hrb, htb⟩
  clear hrb htb HBS1
  go_wp2_with fail
  refine (take6_any tb T0 lw _ HT1.out hlw0 hlw1 hT0l).mono ?_
  rintro e w2 ⟨rfl, hb2, ht2⟩
  have HT2 := Lib.hid hb2
  have HZ2 : Hid (Blk w2 rb 32 zC) := ht2.blk HZ1.out (fun e => by have := HNB.out; have e : rb = tb := e; omega)
  have HF2 : Hid (Fresh w w2) := HF1.out.trans ht2 (fun k hk e => by have := HNB.out; have e : k = tb := e; omega)
  clear hb2 ht2 HT1 HZ1 HF1
  go_wp2_with fail
  refine (HLO.out _).mono ?_
  rintro e w3 ⟨rfl, rfl⟩
  go_wp2_with fail
  have HPN : Hid (PN w rb tb w3.heap.size w3.heap.size) → True := fun _ => trivial
  clear HPN
  obtain ⟨pb, hpb⟩ : ∃ pb, pb = w3.heap.size := ⟨_, rfl⟩
  have HP3 : Hid (Blk (w3.alloc (.cells #[.int .i64 kind, .int .i64 0, .int .u32 n, .int .u32 0, .int .u32 0, .slice none 0 0, .bool self, .string ⟨#[]⟩] 32)) pb 32 [.int .i64 kind, .int .i64 0, .int .u32 n, .int .u32 0, .int .u32 0, .slice none 0 0, .bool self, .string ⟨#[]⟩]) := by
    rw [hpb]
    exact Blk.new w3 _ _
  have HT3 : Hid (Blk (w3.alloc (.cells #[.int .i64 kind, .int .i64 0, .int .u32 n, .int .u32 0, .int .u32 0, .slice none 0 0, .bool self, .string ⟨#[]⟩] 32)) tb 81 [.string (Wh.B T0)]) := HT2.out.alloc _
  have HZ3 : Hid (Blk (w3.alloc (.cells #[.int .i64 kind, .int .i64 0, .int .u32 n, .int .u32 0, .int .u32 0, .slice none 0 0, .bool self, .string ⟨#[]⟩] 32)) rb 32 zC) := HZ2.out.alloc _
  have HF3 : Hid (Fresh w (w3.alloc (.cells #[.int .i64 kind, .int .i64 0, .int .u32 n, .int .u32 0, .int .u32 0, .slice none 0 0, .bool self, .string ⟨#[]⟩] 32))) := HF2.out.alloc _
  have HLT : Hid (tb < pb ∧ rb < pb) := by
    rw [hpb]
    exact ⟨HT2.out.lt, HZ2.out.lt⟩
  rw [← hpb]
  clear HT2 HZ2 HF2 hpb
  generalize (w3.alloc (.cells #[.int .i64 kind, .int .i64 0, .int .u32 n, .int .u32 0, .int .u32 0, .slice none 0 0, .bool self, .string ⟨#[]⟩] 32)) = w4 at *
  refine (HSH.out _).mono ?_
  rintro e w5 ⟨rfl, f5⟩
  have HS : Hid (PS w rb tb pb w5.heap.size ⟨sd, ssq, sn, sl, sps, smr, sself, true⟩ (w5.alloc (.cells #[.int .i64 sd, .bool ssq, .bool sn, .int .i64 sl, .bool sps, .bool smr, .bool sself, .bool true] 61)) T0 [.int .i64 kind, .int .i64 0, .int .u32 n, .int .u32 0, .int .u32 0, .slice none 0 0, .bool self, .string ⟨#[]⟩]) :=
    ⟨(f5.blk HT3.out (fun e => e)).alloc _, (f5.blk HP3.out (fun e => e)).alloc _, (f5.blk HZ3.out (fun e => e)).alloc _, Blk.new w5 _ _, (HF3.out.trans f5 (fun _ _ e => e)).alloc _⟩
  have HPB : Hid (pb < w5.heap.size) := Nat.lt_of_lt_of_le HP3.out.lt f5.size
  clear f5 HP3 HT3 HZ3 HF3
  go_upto_region 7 with (fail)
  generalize (w5.alloc (.cells #[.int .i64 sd, .bool ssq, .bool sn, .int .i64 sl, .bool sps, .bool smr, .bool sself, .bool true] 61)) = w6 at *
  generalize w5.heap.size = sb at *
  have HN : Hid (PN w rb tb pb sb) := by
    have h1 := HNB.out
    have h2 := HLT.out
    have h3 : pb < sb := HPB.out
    exact ⟨by omega, by omega, by omega, by omega, by omega, by omega, by omega, by omega⟩
  clear HNB HLT HPB HSH HLO hz hne hR4i a1 a3
  have s0 : w6.cell? ⟨sb, 0, none⟩ = some (.int .i64 sd) := HS.out.s.cell 0
  have s1 : w6.cell? ⟨sb, 1, none⟩ = some (.bool ssq) := HS.out.s.cell 1
  have s2 : w6.cell? ⟨sb, 2, none⟩ = some (.bool sn) := HS.out.s.cell 2
  have s3 : w6.cell? ⟨sb, 3, none⟩ = some (.int .i64 sl) := HS.out.s.cell 3
  have s4 : w6.cell? ⟨sb, 4, none⟩ = some (.bool sps) := HS.out.s.cell 4
  have s5 : w6.cell? ⟨sb, 5, none⟩ = some (.bool smr) := HS.out.s.cell 5
  have s6 : w6.cell? ⟨sb, 6, none⟩ = some (.bool sself) := HS.out.s.cell 6
  have s7 : w6.cell? ⟨sb, 7, none⟩ = some (.bool true) := HS.out.s.cell 7
  have hz : (Wh.B R).size = R.length := Wh.B_size R
  go_wp2_with fail
  refine (HFC.out _).mono ?_
  rintro e w7 ⟨rfl, f7⟩
  have HS7 : Hid (PS w rb tb pb sb ⟨sd, ssq, sn, sl, sps, smr, sself, true⟩ w7 T0 [.int .i64 kind, .int .i64 0, .int .u32 n, .int .u32 0, .int .u32 0, .slice none 0 0, .bool self, .string ⟨#[]⟩]) := HS.out.fresh f7
  clear f7 HS s0 s1 s2 s3 s4 s5 s6 s7 HFC
  have s5 : w7.cell? ⟨sb, 5, none⟩ = some (.bool smr) := HS7.out.s.cell 5
  go_upto_if 54 with (fail)
  obtain ⟨T2, hT2⟩ : ∃ T2, T2 = fr ++ (Wh.opt ssq sq ++ l).flatMap Wh.four := ⟨_, rfl⟩
  obtain ⟨T1, hT1⟩ : ∃ T1, T1 = T2 ++ (Wh.opt sps ps).flatMap Wh.four := ⟨_, rfl⟩
  have HT01 : Hid (T0 = T1 ++ (Wh.opt smr mr).flatMap Wh.four) := by
    show _ = _
    rw [HT0.out, hT1, hT2]
    simp only [List.flatMap_append, List.append_assoc]
  have HT12 := Lib.hid hT1
  have HT2 := Lib.hid hT2
  have hT1l : T1.length ≤ 1000000 := by
    have := congrArg List.length HT01.out
    rw [List.length_append] at this
    omega
  have hT2l : T2.length ≤ 1000000 := by
    have := congrArg List.length hT1
    rw [List.length_append] at this
    omega
  clear hT1 hT2
  go_cut [8] (fun v wx => v = .int .i64 (pd : Int) ∧ Hid (PS w rb tb pb sb ⟨sd, ssq, sn, sl, sps, smr, sself, true⟩ wx T1 [.int .i64 kind, .int .i64 0, .int .u32 n, .int .u32 0, .int .u32 mr, .slice none 0 0, .bool self, .string ⟨#[]⟩]))
  case first =>
    cases smr
    · have h0 : mr = 0 := HMRN.out rfl
      subst h0
      have HE : Hid (T0 = T1) := by
        show _ = _
        rw [HT01.out]
        simp [Wh.opt]
      go_wp2
      go_meet
      case rel => exact ⟨rfl, by rw [← HE.out]; exact HS7⟩
    · have HE : Hid (T0 = T1 ++ Wh.four mr) := by
        show _ = _
        rw [HT01.out]
        simp [Wh.opt]
      go_wp2_with fail
      refine (take6_any tb T1 mr _ (by rw [← HE.out]; exact HS7.out.t) (by omega) (by omega) hT1l).mono ?_
      rintro e w8 ⟨rfl, hb8, ht8⟩
      have HS8 := Lib.hid (HS7.out.take HN.out hb8 ht8)
      clear hb8 ht8
      have c4 : w8.cell? ⟨pb, 4, none⟩ = some (.int .u32 0) := HS8.out.p.cell 4
      have z4 : w8.frozen? ⟨pb, 4, none⟩ = false := HS8.out.p.frozen 4
      have HS9 := Lib.hid (HS8.out.set HN.out 4 (.int .u32 mr))
      go_wp2_with fail
      go_meet
      case rel => exact ⟨rfl, HS9⟩
  case rest =>
    obtain ⟨rfl, HA⟩ := hcut
    clear HS7 s5 HT01 HT0 HMRN
    have s4 : wc.cell? ⟨sb, 4, none⟩ = some (.bool sps) := HA.out.s.cell 4
    go_upto_if 59 with (fail)
    go_cut [8] (fun v wx => v = .int .i64 (pd : Int) ∧ Hid (PS w rb tb pb sb ⟨sd, ssq, sn, sl, sps, smr, sself, true⟩ wx T2 [.int .i64 kind, .int .i64 0, .int .u32 n, .int .u32 ps, .int .u32 mr, .slice none 0 0, .bool self, .string ⟨#[]⟩]))
    case first =>
      cases sps
      · have h0 : ps = 0 := HPSN.out rfl
        subst h0
        have HE : Hid (T1 = T2) := by
          show _ = _
          rw [HT12.out]
          simp [Wh.opt]
        go_wp2
        go_meet
        case rel => exact ⟨rfl, by rw [← HE.out]; exact HA⟩
      · have HE : Hid (T1 = T2 ++ Wh.four ps) := by
          show _ = _
          rw [HT12.out]
          simp [Wh.opt]
        go_wp2_with fail
        refine (take6_any tb T2 ps _ (by rw [← HE.out]; exact HA.out.t) (by omega) (by omega) hT2l).mono ?_
        rintro e w8 ⟨rfl, hb8, ht8⟩
        have HS8 := Lib.hid (HA.out.take HN.out hb8 ht8)
        clear hb8 ht8
        have c3 : w8.cell? ⟨pb, 3, none⟩ = some (.int .u32 0) := HS8.out.p.cell 3
        have z3 : w8.frozen? ⟨pb, 3, none⟩ = false := HS8.out.p.frozen 3
        have HS9 := Lib.hid (HS8.out.set HN.out 3 (.int .u32 ps))
        go_wp2_with fail
        go_meet
        case rel => exact ⟨rfl, HS9⟩
    case rest =>
      obtain ⟨rfl, HB⟩ := hcut
      clear s4 HA HT12 HPSN
      have s3 : wc.cell? ⟨sb, 3, none⟩ = some (.int .i64 sl) := HB.out.s.cell 3
      have t0 : wc.cell? ⟨tb, 0, none⟩ = some (.string (Wh.B T2)) := HB.out.t.cell 0
      have hzt : (Wh.B T2).size = T2.length := Wh.B_size T2
      go_upto_if 66 with (fail)
      go_cut [8, 9] (fun u v wx => u = .int .i64 (pd : Int) ∧ v = .int .i64 (l.length : Int) ∧ wx = wc)
      case first =>
        by_cases hsl : sl < 0
        · have h4 : (T2.length : Int) / 4 = (l.length : Int) := by
            have h1 := HT2.out
            have h2 := congrArg List.length h1
            rw [List.length_append, Wh.fours_len, List.length_append] at h2
            rcases HSL.out with h | h | h
            · omega
            · have h3 := HDN.out h.2.1
              have h5 := HFL.out
              have h6 := HF4.out
              have h7 : (Wh.opt ssq sq).length = 0 := by rw [h.2.2]; rfl
              omega
            · omega
          go_wp2
          go_meet
          case rel => exact ⟨rfl, rfl, rfl⟩
        · have h4 : sl = (l.length : Int) := (HLN.out (by omega)).symm
          go_wp2
          go_meet
          case rel => exact ⟨rfl, by first | rfl | rw [h4], rfl⟩
      case rest =>
        obtain ⟨rfl, rfl, rfl⟩ := hcut
        clear s3 t0 hzt HSL HDN HLN
        go_wp2_with fail
        go_loopw [74] (fun i wx => ∃ (k : Nat) (A' : Option Addr) (c' : Nat) (L : List Int), k ≤ l.length ∧ i = .int .i64 k ∧ Hid (L = (l.drop (l.length - k)).reverse) ∧ Hid (PS w rb tb pb sb ⟨sd, ssq, sn, sl, sps, smr, sself, true⟩ wx (fr ++ (Wh.opt ssq sq ++ l.take (l.length - k)).flatMap Wh.four) [.int .i64 kind, .int .i64 0, .int .u32 n, .int .u32 ps, .int .u32 mr, .slice A' L.length c', .bool self, .string ⟨#[]⟩]) ∧ Hid (Mine numE w wx A' c' L)) (fun i _ => l.length - (intOf i).toNat)
        case atStart =>
          refine ⟨0, none, 0, [], Nat.zero_le _, rfl, ?_, ?_, ?_⟩
          · show _ = _
            simp
          · rw [Nat.sub_zero, List.take_length, ← HT2.out]
            exact HB
          · exact ⟨Sl.nil _ _, HB.out.f, fun _ h => nomatch h⟩
        case round =>
          obtain ⟨k, A2, c2, L2, hk, rfl, HL2, HP, HM⟩ := hrel
          by_cases hlt : k < l.length
          · obtain ⟨m, hm⟩ : ∃ m, l.length - k = m + 1 := ⟨l.length - k - 1, by omega⟩
            have hml : m < l.length := by omega
            have hx := HLL.out l[m] (List.getElem_mem hml)
            have HTK : Hid (fr ++ (Wh.opt ssq sq ++ l.take (l.length - k)).flatMap Wh.four = (fr ++ (Wh.opt ssq sq ++ l.take m).flatMap Wh.four) ++ Wh.four l[m]) := by
              show _ = _
              rw [hm, List.take_succ_eq_append_getElem hml]
              simp only [List.flatMap_append, List.append_assoc, List.flatMap_cons, List.flatMap_nil, List.append_nil]
            have HLK : Hid ((l.drop (l.length - (k + 1))).reverse = L2 ++ [l[m]]) := by
              show _ = _
              rw [HL2.out, hm, show l.length - (k + 1) = m by omega, List.drop_eq_getElem_cons hml, List.reverse_cons]
            have HMK : Hid (l.length - (k + 1) = m) := by
              show _ = _
              omega
            have hTl : (fr ++ (Wh.opt ssq sq ++ l.take m).flatMap Wh.four).length ≤ 1000000 := by
              have h1 := congrArg List.length HT2.out
              rw [List.length_append, Wh.fours_len, List.length_append] at h1
              rw [List.length_append, Wh.fours_len, List.length_append, List.length_take]
              omega
            have h2l : L2.length ≤ 200 := by
              rw [HL2.out]
              simp
              omega
            rw [HTK.out] at HP
            obtain ⟨x, hxe⟩ : ∃ x, x = l[m] := ⟨_, rfl⟩
            rw [← hxe] at hx HP HLK
            clear hxe HTK HL2 hm hml
            obtain ⟨hx0, hx1⟩ := hx
            obtain ⟨Tk, hTk⟩ : ∃ Tk, Tk = fr ++ (Wh.opt ssq sq ++ l.take m).flatMap Wh.four := ⟨_, rfl⟩
            rw [← hTk] at HP hTl
            have HTk := Lib.hid hTk
            clear hTk
            have c5 : wr.cell? ⟨pb, 5, none⟩ = some (.slice A2 L2.length c2) := HP.out.p.cell 5
            have z5 : wr.frozen? ⟨pb, 5, none⟩ = false := HP.out.p.frozen 5
            go_upto_region 21 with (fail)
            have HPd : Hid (PS w rb tb pb sb ⟨sd, ssq, sn, sl, sps, smr, sself, true⟩ wr.drew (Tk ++ Wh.four x) [.int .i64 kind, .int .i64 0, .int .u32 n, .int .u32 ps, .int .u32 mr, .slice A2 L2.length c2, .bool self, .string ⟨#[]⟩]) := HP.out.fresh ((Touch.refl _ _).drew)
            have HMd : Hid (Mine numE w wr.drew A2 c2 L2) := HM.out.old ((Touch.refl _ _).drew)
            clear HP HM HB HT2
            go_region_law (first
              | (go_simp; go_at_call 34; refine (take6_any tb Tk x _ HPd.out.t hx0 (by omega) hTl).mono ?_; rintro e w8 ⟨rfl, hb8, ht8⟩; have HP8 := Lib.hid (HPd.out.take HN.out hb8 ht8); have HM8 : Hid (Mine numE w w8 A2 c2 L2) := HMd.out.own ht8 (fun k e => by have := HN.out.t; have e : k = tb := e; omega) (fun ad e => HMd.out.sl.blk_ne HPd.out.t (by decide) ad e); have c8 : w8.cell? ⟨pb, 5, none⟩ = some (.slice A2 L2.length c2) := HP8.out.p.cell 5; have d8 : (w8.alloc (.cells #[.int .u32 x] 29)).cell? ⟨pb, 5, none⟩ = some (.slice A2 L2.length c2) := (HP8.out.p.alloc _).cell 5; clear hb8 ht8)
              | (refine stp_num rfl (by rfl) (l := L2) (l2 := [x]) (by rfl) (by rfl) (HM8.out.sl.alloc _) (Sl.lit numE w8 _ rfl #[.int .u32 x] [x] rfl 1 rfl (by unfold maxLen; omega)).rd (by simp; omega) ?_; intro A' c' L w9 hL hs ht hA; have HM9 := Lib.hid ((HM8.out.alloc _).app hs ht hA); have HP9 := Lib.hid ((HP8.out.fresh ((Touch.refl _ _).alloc _)).list (HM8.out.alloc _) ht); have c9 : w9.cell? ⟨pb, 5, none⟩ = some (.slice A2 L2.length c2) := HP9.out.p.cell 5; have z9 : w9.frozen? ⟨pb, 5, none⟩ = false := HP9.out.p.frozen 5; have HL9 := Lib.hid hL.out; clear hs ht hA hL))
            all_goals
              have HPE := Lib.hid (HP9.out.set HN.out 5 (.slice A' L.length c'))
              have HME : Hid (Mine numE w (w9.setCell ⟨pb, 5, none⟩ (.slice A' L.length c')) A' c' L) := HM9.out.own (Touch.set1 w9 pb 5 _) (fun k e => by have := HN.out.p; have e : k = pb := e; omega) (fun ad e => HM9.out.sl.blk_ne HP9.out.p (by decide) ad e)
              have HLE : Hid (L = (l.drop (l.length - (k + 1))).reverse) := by
                show _ = _
                rw [HLK.out]
                exact HL9.out
              go_wp2_with fail
              go_roundw
              case rel => exact ⟨k + 1, A', c', L, by omega, by go_num, HLE, by rw [HMK.out, ← HTk.out]; first | exact HPE | exact HPE.out.fresh ((Touch.refl _ _).drew), by first | exact HME | exact HME.out.old ((Touch.refl _ _).drew)⟩
              case measure => simp [intOf]; omega
          · have hkl : k = l.length := by omega
            have HL3 : Hid (L2 = l.reverse) := by
              show _ = _
              rw [HL2.out, hkl, Nat.sub_self, List.drop_zero]
            have HP3 : Hid (PS w rb tb pb sb ⟨sd, ssq, sn, sl, sps, smr, sself, true⟩ wr (fr ++ (Wh.opt ssq sq).flatMap Wh.four) [.int .i64 kind, .int .i64 0, .int .u32 n, .int .u32 ps, .int .u32 mr, .slice A2 L2.length c2, .bool self, .string ⟨#[]⟩]) := by
              have := HP.out
              rw [hkl, Nat.sub_self, List.take_zero, List.append_nil] at this
              exact this
            clear hkl HL2 HP HB HT2
            have h2l : L2.length ≤ 200 := by rw [HL3.out, List.length_reverse]; omega
            have c5 : wr.cell? ⟨pb, 5, none⟩ = some (.slice A2 L2.length c2) := HP3.out.p.cell 5
            go_wp2_with fail
            refine (rev6_any A2 c2 L2 _ HM.out.sl (by omega)).mono ?_
            rintro e w8 ⟨rfl, hs8, ht8⟩
            have HP8 := Lib.hid (HP3.out.list HM.out ht8)
            have HM8 : Hid (Mine numE w w8 A2 c2 l) := by
              have e : L2.reverse = l := by rw [HL3.out, List.reverse_reverse]
              rw [e] at hs8
              exact ⟨hs8, HP8.out.f, HM.out.base⟩
            have HLL2 : Hid (L2.length = l.length) := by
              show _ = _
              rw [HL3.out, List.length_reverse]
            rw [HLL2.out] at HP8
            clear hs8 ht8 c5 HP3 HM HL3
            have s1 : w8.cell? ⟨sb, 1, none⟩ = some (.bool ssq) := HP8.out.s.cell 1
            go_upto_if 88 with (fail)
            go_cut [8] (fun v wx => v = .int .i64 (pd : Int) ∧ Hid (PS w rb tb pb sb ⟨sd, ssq, sn, sl, sps, smr, sself, true⟩ wx fr [.int .i64 kind, .int .i64 sq, .int .u32 n, .int .u32 ps, .int .u32 mr, .slice A2 l.length c2, .bool self, .string ⟨#[]⟩]) ∧ Hid (Mine numE w wx A2 c2 l))
            case first => as_aux_lemma =>
              cases ssq
              · have h0 : sq = 0 := HSQN.out rfl
                subst h0
                have HE : Hid (fr ++ (Wh.opt false 0).flatMap Wh.four = fr) := by
                  show _ = _
                  simp [Wh.opt]
                rw [HE.out] at HP8
                go_wp2
                go_meet
                case rel => exact ⟨rfl, HP8, HM8⟩
              · have HE : Hid (fr ++ (Wh.opt true sq).flatMap Wh.four = fr ++ Wh.four sq) := by
                  show _ = _
                  simp [Wh.opt]
                rw [HE.out] at HP8
                have hfl : fr.length ≤ 1000000 := by rw [HFL.out]; omega
                go_wp2_with fail
                refine (take6_any tb fr sq _ HP8.out.t hq0 (by omega) hfl).mono ?_
                rintro e w9 ⟨rfl, hb9, ht9⟩
                have HP9 := Lib.hid (HP8.out.take HN.out hb9 ht9)
                have HM9 : Hid (Mine numE w w9 A2 c2 l) := HM8.out.own ht9 (fun k e => by have := HN.out.t; have e : k = tb := e; omega) (fun ad e => HM8.out.sl.blk_ne HP8.out.t (by decide) ad e)
                clear hb9 ht9
                have c1 : w9.cell? ⟨pb, 1, none⟩ = some (.int .i64 0) := HP9.out.p.cell 1
                have z1 : w9.frozen? ⟨pb, 1, none⟩ = false := HP9.out.p.frozen 1
                have HPE := Lib.hid (HP9.out.set HN.out 1 (.int .i64 sq))
                have HME : Hid (Mine numE w (w9.setCell ⟨pb, 1, none⟩ (.int .i64 sq)) A2 c2 l) := HM9.out.own (Touch.set1 w9 pb 1 _) (fun k e => by have := HN.out.p; have e : k = pb := e; omega) (fun ad e => HM9.out.sl.blk_ne HP9.out.p (by decide) ad e)
                go_wp2_with fail
                go_meet
                case rel => exact ⟨rfl, HPE, HME⟩
            case rest => as_aux_lemma =>
              obtain ⟨rfl, HQ, HO⟩ := hcut
              clear HP8 HM8 s1 HSQN
              have t0 : wc.cell? ⟨tb, 0, none⟩ = some (.string (Wh.B fr)) := HQ.out.t.cell 0
              have c7 : wc.cell? ⟨pb, 7, none⟩ = some (.string ⟨#[]⟩) := HQ.out.p.cell 7
              have z7 : wc.frozen? ⟨pb, 7, none⟩ = false := HQ.out.p.frozen 7
              have hzf : (Wh.B fr).size = data.size + pd := by rw [Wh.B_size, HFL.out]
              have hxf : (Wh.B fr).extract 0 data.size = data := by
                rw [HFR.out, Lib.size_eq data, Wh.B_front, Wh.B_of]
              have b1 : (0 : Int) ≤ (data.size : Int) := by omega
              have b2 : (data.size : Int) ≤ (data.size : Int) + (pd : Int) := by omega
              have HPE := Lib.hid (HQ.out.set HN.out 7 (.string data))
              have HME : Hid (Mine numE w (wc.setCell ⟨pb, 7, none⟩ (.string data)) A2 c2 l) := HO.out.own (Touch.set1 wc pb 7 _) (fun k e => by have := HN.out.p; have e : k = pb := e; omega) (fun ad e => HO.out.sl.blk_ne HQ.out.p (by decide) ad e)
              go_upto_region 28 with (fail)
              clear b1 b2
              go_region
              all_goals
                have HPF : Hid (PS w rb tb pb sb ⟨sd, ssq, sn, sl, sps, smr, sself, true⟩ (wc.setCell ⟨pb, 7, none⟩ (.string data)).drew fr [.int .i64 kind, .int .i64 sq, .int .u32 n, .int .u32 ps, .int .u32 mr, .slice A2 l.length c2, .bool self, .string data]) := HPE.out.fresh ((Touch.refl _ _).drew)
                have HMF : Hid (Mine numE w (wc.setCell ⟨pb, 7, none⟩ (.string data)).drew A2 c2 l) := HME.out.old ((Touch.refl _ _).drew)
                clear HPE HME t0 c7 z7 hzf hxf HQ HO
                generalize (wc.setCell ⟨pb, 7, none⟩ (.string data)).drew = w9 at *
                go_wp2_with fail
                refine (HTL.out pb A2 c2 _ HPF.out.p HMF.out.sl.rd).mono ?_
                rintro e w10 ⟨rfl, f10⟩
                have HPG := Lib.hid (HPF.out.fresh f10)
                have HMG := Lib.hid (HMF.out.old f10)
                clear f10 HPF HMF
                have e0 : w10.cell? ⟨pb, 0, none⟩ = some (.int .i64 kind) := HPG.out.p.cell 0
                have e1 : w10.cell? ⟨pb, 1, none⟩ = some (.int .i64 sq) := HPG.out.p.cell 1
                have e2 : w10.cell? ⟨pb, 2, none⟩ = some (.int .u32 n) := HPG.out.p.cell 2
                have e3 : w10.cell? ⟨pb, 3, none⟩ = some (.int .u32 ps) := HPG.out.p.cell 3
                have e4 : w10.cell? ⟨pb, 4, none⟩ = some (.int .u32 mr) := HPG.out.p.cell 4
                have e5 : w10.cell? ⟨pb, 5, none⟩ = some (.slice A2 l.length c2) := HPG.out.p.cell 5
                have e6 : w10.cell? ⟨pb, 6, none⟩ = some (.bool self) := HPG.out.p.cell 6
                have e7 : w10.cell? ⟨pb, 7, none⟩ = some (.string data) := HPG.out.p.cell 7
                have HI : Hid ((Tryd.prog.info? 32).map (·.size) = some (#[.int .i64 kind, .int .i64 sq, .int .u32 n, .int .u32 ps, .int .u32 mr, .slice A2 l.length c2, .bool self, .string data] : Array Value).size) := by
                  show _ = _
                  kernel_rfl
                have HO1 : Hid ((#[.int .i64 kind, .int .i64 sq, .int .u32 n, .int .u32 ps, .int .u32 mr, .slice A2 l.length c2, .bool self, .string data] : Array Value).all (·.oneCell') = true) := by
                  show _ = _
                  simp [Value.oneCell']
                have HZR := Lib.hid HPG.out.r
                have HPP := Lib.hid HPG.out.p
                have HB11 : Hid (Blk (w10.setRow rb #[.int .i64 kind, .int .i64 sq, .int .u32 n, .int .u32 ps, .int .u32 mr, .slice A2 l.length c2, .bool self, .string data]) rb 32 [.int .i64 kind, .int .i64 sq, .int .u32 n, .int .u32 ps, .int .u32 mr, .slice A2 l.length c2, .bool self, .string data]) := setRow_heap w10 rb _ _ _ _ HZR.out
                have HTT : Hid (Touch (· = rb) w10 (w10.setRow rb #[.int .i64 kind, .int .i64 sq, .int .u32 n, .int .u32 ps, .int .u32 mr, .slice A2 l.length c2, .bool self, .string data])) := ⟨rfl, rfl, rfl, by simp, fun k _ hk => setRow_other w10 rb k _ hk⟩
                have HFE : Hid (Fresh w (w10.setRow rb #[.int .i64 kind, .int .i64 sq, .int .u32 n, .int .u32 ps, .int .u32 mr, .slice A2 l.length c2, .bool self, .string data])) := HPG.out.f.trans HTT.out (fun k hk e => by have := HN.out.r; have e : k = rb := e; omega)
                have HRE : Hid (Rd numE (w10.setRow rb #[.int .i64 kind, .int .i64 sq, .int .u32 n, .int .u32 ps, .int .u32 mr, .slice A2 l.length c2, .bool self, .string data]) A2 c2 l) := (HMG.out.sl.touch HTT.out (fun ad e => HMG.out.sl.blk_ne HPG.out.r (by decide) ad e)).rd
                clear HTT HMG HPG
                have HU := Lib.hid Tryd.underlying32
                go_upto_region 30 with (fail)
                refine wp_region_lit ?_
                refine wpList_load_row rfl 32 (.tmp 6) rfl pb (by rfl) 32 #[.int .i64 kind, .int .i64 sq, .int .u32 n, .int .u32 ps, .int .u32 mr, .slice A2 l.length c2, .bool self, .string data] (0, 0) _ HPP.out HU.out rfl HI.out ?_
                refine wpList_move rfl (.tmp 10) rfl ?_
                refine wpList_store_row rfl 32 (.tmp 2) (.tmp 116) rfl rb #[.int .i64 kind, .int .i64 sq, .int .u32 n, .int .u32 ps, .int .u32 mr, .slice A2 l.length c2, .bool self, .string data] (by rfl) (by rfl) 32 zC.toArray HZR.out HI.out (by rfl) HO1.out ?_
                clear e0 e1 e2 e3 e4 e5 e6 e7
                generalize (w10.setRow rb #[.int .i64 kind, .int .i64 sq, .int .u32 n, .int .u32 ps, .int .u32 mr, .slice A2 l.length c2, .bool self, .string data]) = w11 at *
                have r0 : w11.cell? ⟨rb, 0, none⟩ = some (.int .i64 kind) := HB11.out.cell 0
                have r1 : w11.cell? ⟨rb, 1, none⟩ = some (.int .i64 sq) := HB11.out.cell 1
                have r2 : w11.cell? ⟨rb, 2, none⟩ = some (.int .u32 n) := HB11.out.cell 2
                have r3 : w11.cell? ⟨rb, 3, none⟩ = some (.int .u32 ps) := HB11.out.cell 3
                have r4 : w11.cell? ⟨rb, 4, none⟩ = some (.int .u32 mr) := HB11.out.cell 4
                have r5 : w11.cell? ⟨rb, 5, none⟩ = some (.slice A2 l.length c2) := HB11.out.cell 5
                have r6 : w11.cell? ⟨rb, 6, none⟩ = some (.bool self) := HB11.out.cell 6
                have r7 : w11.cell? ⟨rb, 7, none⟩ = some (.string data) := HB11.out.cell 7
                go_wp2_with fail
                refine bodyPost_ret (v := .tuple #[.agg #[.int .i64 kind, .int .i64 sq, .int .u32 n, .int .u32 ps, .int .u32 mr, .slice A2 l.length c2, .bool self, .string data], .int .i64 0]) (by simp [results, Tryd.results13, go_sem, r0, r1, r2, r3, r4, r5, r6, r7]) rfl ⟨A2, c2, rfl, HFE.out, HRE.out⟩
end Go.Proofs.YtpifgpmjnjbecaaDoor
