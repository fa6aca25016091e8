/-
  ring.Ring of units: place, Room, All, grow, Put · ring.Ring of units: Put · ring.Ring of units: First, Take · ring.Ring of units: Take.
-/
import Derived.Test.YtipaobpmojahaaaGreatRPdu
import Derived.Test.YtipaobpmojahaaaGreatPdw
import Derived.Test.YtipaobpmojahaaaGreatOp6
import Derived.Deep.RegionHeld3
set_option maxHeartbeats 2000000
namespace Go.Proofs.YtipaobpmojahaaaGreat
open Go.RowKit
set_option maxRecDepth 20000

theorem mk_pdu {ops : Array Oper} {rest : List Oper} {o : Oper} {a : Act} {Q : Exit -> Act -> World -> Prop} {w : World} (hgd : o.guard = none) {x y : Operand} (ho : o.op = Op.makeSlice 46 x y)
  (n : Nat) {kx ky : IntKind} (ex : a.eval x = .int kx n) (ey : a.eval y = .int ky n) (hm : n <= 1000000000)
  (hK : ∀ L w', Hid (L = List.replicate n pduE.zel) -> Hid (L.length = n) -> Sl pduE w' (some ⟨w.heap.size, 0, none⟩) n L -> Fresh w w' →
   wpList Tryz.prog ops Q rest (a.put o.dst (.slice (some ⟨w.heap.size, 0, none⟩) n n)) w') : wpList Tryz.prog ops Q (o :: rest) a w := by
 obtain ⟨i0, hi, hz0, hz1, hz2⟩ := info_parts Tryz.infoPdu
 exact wpList_mk pduE hgd ho i0 Tryz.underlying46 hi hz0 hz1 hz2 n ex ey (by simp only [maxLen]; omega) (by show 80 * n <= _; omega) hK
theorem cp_pdu {ops : Array Oper} {rest : List Oper} {o : Oper} {a : Act} {Q : Exit -> Act -> World -> Prop} {w : World} (hgd : o.guard = none) {x y : Operand}
  (ho : o.op = .call { callee := .builtin .copy, args := #[x, y], argTypes := #[46, 46] })
  {A A2 : Option Addr} {c c2 n n2 : Nat} {l l2 : List Cn.Pd} (ex : a.eval x = .slice A n c) (ey : a.eval y = .slice A2 n2 c2) (hn : Hid (l.length = n)) (hn2 : Hid (l2.length = n2)) (h : Sl pduE w A c l) (h2 : Rd pduE w A2 c2 l2)
  (hK : ∀ L w', Hid (L = l2.take l.length ++ l.drop l2.length) -> Hid (L.length = n) -> Sl pduE w' A c L -> Touch (fun k => A.map Addr.block = some k) w w' →
   wpList Tryz.prog ops Q rest (a.put o.dst (.int .i64 (Nat.min n2 n))) w') : wpList Tryz.prog ops Q (o :: rest) a w := by
 obtain ⟨i0, hi, _, hz1, _⟩ := info_parts Tryz.infoPdu
 exact wpList_cpn pduE hgd ho i0 Tryz.underlying46 hi hz1 ex ey hn hn2 h h2 hK
theorem ringPdu_place (g : Nat) (A : Option Addr) (c a n L : Nat) (w : World) (c0 : w.cell? ⟨g, 0, none⟩ = some (.slice A L c)) (c1 : w.cell? ⟨g, 1, none⟩ = some (.int .i64 a)) (ha : a <= 4096) (hn : n <= 4096) (hL : 0 < L) (hL2 : L <= 4096) (p : Nat) (Hp : Hid ((a + n) % L = p)) :
  Calls Tryz.prog 84 #[.pointer (some ⟨g, 0, none⟩), .int .i64 n] w fun e w' => e = .returned (.int .i64 p) ∧ ∃ m, w' = w.drewN m := by
 rw [<- Hp.out]
 have hL0 : ((L : Int) == 0) = false := by simp; omega
 have hp := Strplace_mod a n L
 go_enter Tryz.func84, Tryz.ntmps84
 go_wp2
 go_quiet (fail)
 go_wp2
 go_ret
 exact ⟨rfl, _, rfl⟩

theorem ringPdu_room (g : Nat) (b : Option Nat) (most : Nat) (q : List Cn.Pd) (w : World) (h : RingPdu w g b most q) :
  Calls Tryz.prog 159 #[.pointer (some ⟨g, 0, none⟩)] w fun e w' => e = .returned (.int .i64 ((most : Int) - (q.length : Int))) ∧ ∃ m, w' = w.drewN m := by
 have hl := h.len_le
 obtain ⟨A, c, a, buf, hb, _⟩ := h
 have c2 : w.cell? ⟨g, 2, none⟩ = some (.int .i64 q.length) := hb.cell 2
 have c3 : w.cell? ⟨g, 3, none⟩ = some (.int .i64 most) := hb.cell 3
 go_enter Tryz.func159, Tryz.ntmps159
 go_wp2
 go_quiet (fail)
 go_wp2
 go_ret
 exact ⟨rfl, _, rfl⟩

theorem ringPdu_all (g : Nat) (A : Option Addr) (c a most : Nat) (buf q : List Cn.Pd) (w : World)
  (hb : Blk w g 170 [.slice A buf.length c, .int .i64 a, .int .i64 q.length, .int .i64 most]) (hs : Sl pduE w A c buf) (hm : buf.length <= most ∧ most <= 4096) (hg : Gone buf a q) :
  Calls Tryz.prog 220 #[.pointer (some ⟨g, 0, none⟩)] w fun e w' => ∃ A' c', e = .returned (.slice A' q.length c') ∧ Sl pduE w' A' c' q ∧ Fresh w w' ∧ (∀ ad, A' = some ad -> w.heap.size <= ad.block) ∧ (A' = none -> q = []) := by
 have c0 : w.cell? ⟨g, 0, none⟩ = some (.slice A buf.length c) := hb.cell 0
 have c1 : w.cell? ⟨g, 1, none⟩ = some (.int .i64 a) := hb.cell 1
 have c2 : w.cell? ⟨g, 2, none⟩ = some (.int .i64 q.length) := hb.cell 2
 have hql := hg.len
 have ha : a <= 4096 := by rcases hg.pos with h | ⟨_, h⟩ <;> omega
 obtain ⟨hm1, hm2⟩ := hm
 have HB := lh hb
 have HS := lh hs
 have HG := lh hg
 clear hb hs hg
 go_enter Tryz.func220, Tryz.ntmps220
 go_wp2_with fail
 clear c0 c1 c2
 go_loopw [3, 9] (fun v i wr => ∃ (k : Nat) (A' : Option Addr) (c' : Nat) (L : List Cn.Pd), k <= q.length ∧ i = .int .i64 k ∧ v = .slice A' L.length c' ∧ Hid (L = q.take k) ∧ Sl pduE wr A' c' L ∧ Fresh w wr ∧ (∀ ad, A' = some ad -> w.heap.size <= ad.block)) (fun _ i _ => q.length - (intOf i).toNat)
 case atStart => exact ⟨0, none, 0, [], by omega, rfl, rfl, by simp [Hid], Sl.nil _ _, Touch.refl _ _, fun _ h => by cases h⟩
 case round =>
  obtain ⟨k, A', c', L, hk, rfl, rfl, hL, hs', ht, hA'⟩ := hrel
  by_cases hlt : k < q.length
  ·have hbk : Blk wr g 170 [.slice A buf.length c, .int .i64 a, .int .i64 q.length, .int .i64 most] := ht.blk HB.out (fun h => h)
   obtain ⟨p, hp⟩ : ∃ p, Hid ((a + k) % buf.length = p) := ⟨_, rfl⟩
   have hpl : p < buf.length := by rw [<- hp.out]; exact Nat.mod_lt _ (by omega)
   have hg0 := HG.out.get k hlt
   rw [hp.out, List.getElem?_eq_getElem hpl, List.getElem?_eq_getElem hlt] at hg0
   have hget : buf[p] = q[k] := by injection hg0
   clear hg0
   obtain ⟨gA, oA, hAA, -⟩ := (HS.out.touch ht (fun _ _ h => h)).rd.pdu8 p hpl
   obtain ⟨x, hx⟩ := xq (q[k])
   have KF : Hid (∀ wx, Fresh w wx -> wx.cell? ⟨g, 0, none⟩ = some (.slice (some ⟨gA, oA, none⟩) buf.length c) ∧ wx.cell? ⟨g, 1, none⟩ = some (.int .i64 a) ∧ wx.cell? ⟨gA, oA + p * 8, none⟩ = some (.int .i64 x.kind) ∧ wx.cell? ⟨gA, oA + p * 8 + 1, none⟩ = some (.int .i64 x.sq) ∧ wx.cell? ⟨gA, oA + p * 8 + 2, none⟩ = some (.int .u32 x.n) ∧ wx.cell? ⟨gA, oA + p * 8 + 3, none⟩ = some (.int .u32 x.ps) ∧ wx.cell? ⟨gA, oA + p * 8 + 4, none⟩ = some (.int .u32 x.mr) ∧ wx.cell? ⟨gA, oA + p * 8 + 5, none⟩ = some (.slice x.lA x.ln x.lc) ∧ wx.cell? ⟨gA, oA + p * 8 + 6, none⟩ = some (.bool x.self) ∧ wx.cell? ⟨gA, oA + p * 8 + 7, none⟩ = some (.string x.data)) := fun wx hw => by
    have hbx := hw.blk HB.out (fun h => h)
    obtain ⟨g', o', e, z⟩ := (HS.out.touch hw (fun _ _ h => h)).rd.pdu8 p hpl
    rw [hAA] at e
    injection e with e
    injection e with e1 e2
    subst e1 e2
    rw [hget, <- hx] at z
    rw [<- hAA]
    exact ⟨hbx.cell 0, hbx.cell 1, z⟩
   have hll : L.length <= k := by rw [hL.out]; simp; omega
   have hLs : Hid (q.take (k + 1) = L ++ [x]) := by
    show _ = _
    rw [List.take_succ_eq_append_getElem hlt, hL.out, hx]
   have HT := lh ht
   clear hx hget hbk ht hAA
   obtain ⟨c0, c1, d0, d1, d2, d3, d4, d5, d6, d7⟩ := KF.out wr HT.out
   have FD : Fresh w wr.drew := HT.out.drew
   go_upto_region 5 with (fail)
   go_region_held3 (fun wx => wx.cell? ⟨g, 0, none⟩ = some (.slice (some ⟨gA, oA, none⟩) buf.length c) ∧ wx.cell? ⟨g, 1, none⟩ = some (.int .i64 a) ∧ wx.cell? ⟨gA, oA + p * 8, none⟩ = some (.int .i64 x.kind) ∧ wx.cell? ⟨gA, oA + p * 8 + 1, none⟩ = some (.int .i64 x.sq) ∧ wx.cell? ⟨gA, oA + p * 8 + 2, none⟩ = some (.int .u32 x.n) ∧ wx.cell? ⟨gA, oA + p * 8 + 3, none⟩ = some (.int .u32 x.ps) ∧ wx.cell? ⟨gA, oA + p * 8 + 4, none⟩ = some (.int .u32 x.mr) ∧ wx.cell? ⟨gA, oA + p * 8 + 5, none⟩ = some (.slice x.lA x.ln x.lc) ∧ wx.cell? ⟨gA, oA + p * 8 + 6, none⟩ = some (.bool x.self) ∧ wx.cell? ⟨gA, oA + p * 8 + 7, none⟩ = some (.string x.data))
    ((with_reducible refine KF.out _ ?_; first | with_reducible assumption | with_reducible exact FD | with_reducible exact HT.out.drewN _ | with_reducible exact (HT.out.drewN _).alloc _ | exact HT.out.drewN _ | exact (HT.out.drewN _).alloc _))
    (first
     |(refine stp_pdu rfl rfl (l := L) (l2 := [x]) rfl rfl (by exact hs'.alloc _) (by exact Sl.rd (Sl.lit pduE wr _ rfl _ [x] rfl _ rfl (by decide))) (by simp; omega) ?_; intro A2 c2 L2 w2 hL2 hs2 ht2 hA2
       have hfr : Fresh w w2 := ((HT.out.drewN _).alloc _).trans ht2 (fun j hj e => by cases A' with | none => cases e | some ad => have := hA' ad rfl; simp at e; omega))
     |(go_simp; go_at_call 84; refine (ringPdu_place g _ c a k _ _ (by exact c0) (by exact c1) (by omega) (by omega) (by omega) (by omega) p hp).mono ?_; rintro e w' ⟨rfl, m, rfl⟩))
   all_goals
    have hAn : ∀ ad, A2 = some ad -> w.heap.size <= ad.block := by
     intro ad ha
     have hsz := HT.out.size
     subst ha
     rcases hA2 with e | e
     ·cases A' with
      |none => cases e
      |some ad0 => have := hA' ad0 rfl; simp at e; omega
     ·simp at e; omega
    have HFR := lh hfr
    clear ht2 hA2 c0 c1 d0 d1 d2 d3 d4 d5 d6 d7 hfr
    go_wp2
    go_roundw
    case rel => exact ⟨k + 1, A2, c2, L2, by omega, by go_num, rfl, hL2.out.trans hLs.out.symm, hs2, HFR.out, hAn⟩
    case measure => simp [intOf]; omega
  ·have hkk : k = q.length := by omega
   subst hkk
   have hlq : Hid (L = q) := by have := hL.out; rw [List.take_length] at this; exact this
   clear hL
   go_wp2
   go_ret
   exact ⟨A', c', by rw [<- hlq.out]; rfl, by rw [<- hlq.out]; exact hs', ht, hA', fun ha => by have h1 := hs'.1; have h2 := hs'.2.2.1 ha; rw [<- hlq.out]; exact List.eq_nil_of_length_eq_zero (by omega)⟩

theorem ringPdu_grow (g : Nat) (A : Option Addr) (c a most : Nat) (buf q : List Cn.Pd) (w : World)
  (hb : Blk w g 170 [.slice A buf.length c, .int .i64 a, .int .i64 q.length, .int .i64 most]) (hs : Sl pduE w A c buf) (hm : buf.length <= most ∧ most <= 4096) (hg : Gone buf a q) (hfull : q.length = buf.length) (hlt : q.length < most) :
  Calls Tryz.prog 160 #[.pointer (some ⟨g, 0, none⟩)] w fun e w' => e = .returned (.tuple #[]) ∧ ∃ gl c' buf', w.heap.size <= gl ∧
   Blk w' g 170 [.slice (some ⟨gl, 0, none⟩) buf'.length c', .int .i64 0, .int .i64 q.length, .int .i64 most] ∧ Sl pduE w' (some ⟨gl, 0, none⟩) c' buf' ∧ buf'.length <= most ∧ q.length < buf'.length ∧ Gone buf' 0 q ∧ Touch (· = g) w w' := by
 have c0 : w.cell? ⟨g, 0, none⟩ = some (.slice A buf.length c) := hb.cell 0
 have c3 : w.cell? ⟨g, 3, none⟩ = some (.int .i64 most) := hb.cell 3
 obtain ⟨hm1, hm2⟩ := hm
 obtain ⟨x1, hx1⟩ : ∃ x : Int, (if 4 < 2 * (buf.length : Int) then 2 * (buf.length : Int) else 4) = x := ⟨_, rfl⟩
 have hx1' : 0 <= x1 ∧ x1 <= 8192 ∧ (buf.length : Int) < x1 := by rw [<- hx1]; split <;> omega
 obtain ⟨n, hn⟩ : ∃ n : Nat, (if x1 < (most : Int) then x1 else (most : Int)) = (n : Int) := ⟨(if x1 < (most : Int) then x1 else (most : Int)).toNat, by split <;> omega⟩
 have hn' : n <= most ∧ q.length < n := by
  have : (n : Int) <= most ∧ (q.length : Int) < n := by rw [<- hn]; split <;> omega
  omega
 obtain ⟨hn1, hn2⟩ := hn'
 have HB := lh hb
 have HS := lh hs
 have HG := lh hg
 have HF := lh hfull
 clear hb hs hg hfull
 go_enter Tryz.func160, Tryz.ntmps160
 go_wp2
 go_quiet (fail)
 clear hx1 hx1' c0 c3
 go_wp2_with (at_make; refine mk_pdu rfl rfl n (by first | rfl | rw [<- hn]) (by first | rfl | rw [<- hn]) (by omega) ?_; intro L w1 hL hLn hs1 ht1)
 clear hn
 have b1 : Blk w1 g 170 [.slice A buf.length c, .int .i64 a, .int .i64 q.length, .int .i64 most] := ht1.blk (HB.out.drewN _) (fun h => h)
 have s1 : Sl pduE w1 A c buf := (show Sl pduE (w.drewN _) A c buf from HS.out).touch ht1 (fun _ _ h => h)
 refine (ringPdu_all g A c a most buf q w1 b1 s1 ⟨hm1, hm2⟩ HG.out).mono ?_
 rintro e w2 ⟨A2, c2, rfl, s2, t2, hA2, hnil⟩
 have hs2 : Sl pduE w2 (some ⟨w.heap.size, 0, none⟩) n L := hs1.touch t2 (fun _ _ h => h)
 go_upto_region 3 with (refine cp_pdu rfl rfl (x := .tmp 18) (y := .tmp 20) rfl rfl hLn rfl hs2 s2.rd ?_; intro L3 w3 hL3 hL3n hs3 ht3)
 have hgs : g < w.heap.size := HB.out.lt
 have b3 : Blk w3 g 170 [.slice A buf.length c, .int .i64 a, .int .i64 q.length, .int .i64 most] := ht3.blk (t2.blk b1 (fun h => h)) (fun e => by simp at e; omega)
 have d0 : w3.cell? ⟨g, 0, none⟩ = some (.slice A buf.length c) := b3.cell 0
 have d1 : w3.cell? ⟨g, 1, none⟩ = some (.int .i64 a) := b3.cell 1
 have f0 := b3.frozen 0
 have f1 := b3.frozen 1
 have HFin : Hid (Blk ((w3.setCell ⟨g, 0, none⟩ (.slice (some ⟨w.heap.size, 0, none⟩) n n)).setCell ⟨g, 1, none⟩ (.int .i64 0)) g 170 [.slice (some ⟨w.heap.size, 0, none⟩) n n, .int .i64 0, .int .i64 q.length, .int .i64 most]) :=
  (b3.set 0 _).set 1 _
 have HSl : Hid (Sl pduE ((w3.setCell ⟨g, 0, none⟩ (.slice (some ⟨w.heap.size, 0, none⟩) n n)).setCell ⟨g, 1, none⟩ (.int .i64 0)) (some ⟨w.heap.size, 0, none⟩) n L3) :=
  (hs3.setCell (p := ⟨g, 0, none⟩) (fun ad ha => by injection ha with ha; subst ha; simp; omega) _).setCell (p := ⟨g, 1, none⟩) (fun ad ha => by injection ha with ha; subst ha; simp; omega) _
 have HTo : Hid (Touch (· = g) w ((w3.setCell ⟨g, 0, none⟩ (.slice (some ⟨w.heap.size, 0, none⟩) n n)).setCell ⟨g, 1, none⟩ (.int .i64 0))) := by
  have h0 : Touch (· = g) w w3 := ((((Touch.refl (· = g) w).drewN _).trans ht1 (fun _ _ h => h.elim)).trans t2 (fun _ _ h => h.elim)).trans ht3 (fun k hk e => by simp at e; omega)
  exact (h0.st rfl).st rfl
 have HG3 : Hid (Gone L3 0 q) := by
  have e : L3 = q ++ L.drop q.length := by rw [hL3.out, List.take_of_length_le (by rw [hLn.out]; omega)]
  rw [e]
  exact Gone.whole q _ (by rw [List.length_drop, hLn.out]; omega)
 clear b1 s1 s2 t2 hs2 hs1 ht1 hs3 ht3 b3 hL3 hL hLn
 go_wp2
 go_end0
 exact ⟨rfl, w.heap.size, n, L3, Nat.le_refl _, by rw [hL3n.out]; exact HFin.out, HSl.out, by rw [hL3n.out]; exact hn1, by rw [hL3n.out]; exact hn2, HG3.out, HTo.out⟩
set_option maxRecDepth 20000

theorem ringPdu_put (g : Nat) (b : Option Nat) (most : Nat) (q : List Cn.Pd) (v : Cn.Pd) (w : World) (h : RingPdu w g b most q) :
  Calls Tryz.prog 76 #[.pointer (some ⟨g, 0, none⟩), pduV v] w fun e w' => e = .returned (.int .i64 (if q.length < most then 0 else 7)) ∧ ∃ b', RingPdu w' g b' most (if q.length < most then q ++ [v] else q) ∧ Touch (Foot g b) w w' ∧
   ∀ k, b' = some k -> b = some k ∨ w.heap.size <= k := by
 unfold pduV
 obtain ⟨W, hW⟩ := xq w
 obtain ⟨b0, hb0⟩ := xq w.heap.size
 obtain ⟨w0, hw0⟩ := xq (w.alloc (.cells #[.int .i64 v.kind, .int .i64 v.sq, .int .u32 v.n, .int .u32 v.ps, .int .u32 v.mr, .slice v.lA v.ln v.lc, .bool v.self, .string v.data] 58))
 have HF0 : Hid (Fresh w w0) := by rw [hw0]; exact (Touch.refl _ _).alloc _
 have HBX : Hid (∀ W, Touch (Foot g b) w0 W -> Blk W b0 58 [.int .i64 v.kind, .int .i64 v.sq, .int .u32 v.n, .int .u32 v.ps, .int .u32 v.mr, .slice v.lA v.ln v.lc, .bool v.self, .string v.data]) := fun W hW => hW.blk (by rw [hw0, hb0]; exact Blk.new w _ _) (fun e => by
  rcases e with e | e
  ·have := h.lt; omega
  ·have := h.ltb _ e; omega)
 have HTO : Hid (∀ W, Touch (Foot g b) w0 W -> Touch (Foot g b) w W) := fun W hW => (HF0.out.mono (fun _ _ e => e.elim)).trans hW (fun _ _ e => e)
 have hz0 := HF0.out.size
 have HZ0 : Hid (∀ k, b = some k ∨ w0.heap.size <= k -> b = some k ∨ w.heap.size <= k) := fun k e => e.imp id (fun e => Nat.le_trans hz0 e)
 clear hz0
 have HNB : Hid (∀ k, b = some k -> k ≠ b0) := fun k e => by have := h.ltb k e; omega
 have HB0 : Hid (b0 < w0.heap.size) := (HBX.out w0 (Touch.refl _ _)).lt
 replace h : RingPdu w0 g b most q := h.touch HF0.out (fun e => e) (fun _ _ e => e)
 clear HF0 hW
 by_cases hlt : q.length < most
 ·rw [if_pos hlt, if_pos hlt]
  have hr0 : ((most : Int) - (q.length : Int) == 0) = false := by simp; omega
  go_enter Tryz.func76, Tryz.ntmps76
  go_upto_region 1 with (fail)
  rw [<- hw0, <- hb0]
  clear hw0 hb0
  go_wp2_with fail
  refine (ringPdu_room g b most q w0 h).mono ?_
  rintro e w1 ⟨rfl, m, rfl⟩
  go_wp2
  obtain ⟨A, c, a, buf, hb, hs, hA, hm1, hm2, hg⟩ := h
  have c0 : w0.cell? ⟨g, 0, none⟩ = some (.slice A buf.length c) := hb.cell 0
  have c2 : w0.cell? ⟨g, 2, none⟩ = some (.int .i64 q.length) := hb.cell 2
  have hql := hg.len
  have hcap := hs.1
  have hcapm := hs.2.1
  go_quiet (fail)
  clear c0 c2
  go_upto_if 17 with (fail)
  go_cut [] (fun wx => ∃ (A2 : Option Addr) (c2 a2 : Nat) (buf2 : List Cn.Pd), Blk wx g 170 [.slice A2 buf2.length c2, .int .i64 a2, .int .i64 q.length, .int .i64 most] ∧ Sl pduE wx A2 c2 buf2 ∧ buf2.length <= most ∧ q.length < buf2.length ∧ Gone buf2 a2 q ∧ Touch (Foot g b) w0 wx ∧ ∀ ad, A2 = some ad -> b = some ad.block ∨ w0.heap.size <= ad.block)
  case first =>
   by_cases hfull : q.length = buf.length
   ·have hfi : ((q.length : Int) == (buf.length : Int)) = true := by simp [hfull]
    go_wp2_with fail
    refine (ringPdu_grow g A c a most buf q _ (hb.drewN _) hs ⟨hm1, hm2⟩ hg hfull hlt).mono ?_
    rintro e w2 ⟨rfl, gl, c', buf', hgl, b2, s2, hb1, hb2, g2, t2⟩
    go_wp2
    go_meet
    case rel => exact ⟨_, _, 0, buf', b2, s2, hb1, hb2, g2, ((Touch.refl _ w0).drewN _).trans t2 (fun k _ e => .inl e), fun ad ha => .inr (by injection ha with ha; subst ha; exact hgl)⟩
   ·have hfi : ((q.length : Int) == (buf.length : Int)) = false := by simp; omega
    go_wp2
    go_meet
    case rel => exact ⟨A, c, a, buf, hb, hs, hm1, by omega, hg, ((Touch.refl _ w0).drewN _).drewN _, fun ad ha => .inl (by rw [<- hA, ha]; rfl)⟩
  case rest =>
   clear hb hs hA hm1 hg hql hcap hcapm
   obtain ⟨A2, c2, a2, buf2, hb, hs, hm1, hlt2, hg, ht, hA⟩ := hcut
   obtain ⟨p, hp⟩ : ∃ p, Hid ((a2 + q.length) % buf2.length = p) := ⟨_, rfl⟩
   have hpl : p < buf2.length := by rw [<- hp.out]; exact Nat.mod_lt _ (by omega)
   obtain ⟨gA, oA, hAA, z⟩ := hs.rd.pdu8 p hpl
   subst hAA
   obtain ⟨e, he⟩ := xq (buf2[p])
   rw [<- he] at z
   clear he
   have hfz := fun j => hs.frozen gA oA rfl (oA + p * 8 + j)
   have hfz0 := hs.frozen gA oA rfl (oA + p * 8)
   have hne : gA ≠ g := hs.blk_ne hb (by decide) ⟨gA, oA, none⟩ rfl
   have hne' : g ≠ gA := Ne.symm hne
   have ha : a2 <= 4096 := by rcases hg.pos with h | ⟨_, h⟩ <;> omega
   have f2 := hb.frozen 2
   have hcap := hs.1
   have hcapm := hs.2.1
   have hbx := HBX.out wc ht
   have hnb : b0 ≠ gA := by
    have h1 := hbx.lt
    rcases hA _ rfl with e | e
    ·exact fun e2 => HNB.out _ e e2.symm
    ·have := HB0.out; simp only at e; omega
   obtain ⟨z0, z1, z2, z3, z4, z5, z6, z7⟩ := z
   have KF : Hid (∀ wx, Touch (· = gA) wc wx -> wx.cell? ⟨g, 0, none⟩ = some (.slice (some ⟨gA, oA, none⟩) buf2.length c2) ∧ wx.cell? ⟨g, 1, none⟩ = some (.int .i64 a2) ∧ wx.cell? ⟨g, 2, none⟩ = some (.int .i64 q.length) ∧ wx.cell? ⟨b0, 0, none⟩ = some (.int .i64 v.kind) ∧ wx.cell? ⟨b0, 1, none⟩ = some (.int .i64 v.sq) ∧ wx.cell? ⟨b0, 2, none⟩ = some (.int .u32 v.n) ∧ wx.cell? ⟨b0, 3, none⟩ = some (.int .u32 v.ps) ∧ wx.cell? ⟨b0, 4, none⟩ = some (.int .u32 v.mr) ∧ wx.cell? ⟨b0, 5, none⟩ = some (.slice v.lA v.ln v.lc) ∧ wx.cell? ⟨b0, 6, none⟩ = some (.bool v.self) ∧ wx.cell? ⟨b0, 7, none⟩ = some (.string v.data)) := fun wx hw => by
    have h1 := hw.blk hb hne'
    have h2 := hw.blk hbx hnb
    exact ⟨h1.cell 0, h1.cell 1, h1.cell 2, h2.cell 0, h2.cell 1, h2.cell 2, h2.cell 3, h2.cell 4, h2.cell 5, h2.cell 6, h2.cell 7⟩
   have T1 : Touch (· = gA) wc (wc.setCells gA (oA + p * 8) (pduE.enc v)) := Touch.setCells (S := (· = gA)) (g := gA) rfl _ _ (Touch.refl _ wc)
   have HR : Hid (RingPdu ((wc.setCells gA (oA + p * 8) (pduE.enc v)).setCell ⟨g, 2, none⟩ (.int .i64 ((q.length : Int) + 1))) g (some gA) most (q ++ [v])) := by
    refine ⟨some ⟨gA, oA, none⟩, c2, a2, buf2.set p v, ?_, ?_, rfl, by simpa using hm1, hm2, ?_⟩
    ·rw [List.length_set]
     exact ((T1.blk hb hne').set 2 _).eq_cells (by simp)
    ·exact (hs.setE p hpl v).setCell (fun ad ha => by injection ha with ha; subst ha; exact hne) _
    ·rw [<- hp.out]; exact hg.put hlt2 v
   have HT : Hid (Touch (Foot g b) w0 ((wc.setCells gA (oA + p * 8) (pduE.enc v)).setCell ⟨g, 2, none⟩ (.int .i64 ((q.length : Int) + 1)))) :=
    (ht.trans T1 (fun k hk e => by subst e; rcases hA _ rfl with e | e; exact .inr e; simp at e; omega)).st (.inl rfl)
   have HA := lh hA
   clear hb hs hA hg ht hbx T1
   obtain ⟨c0, c1, c2', x0, x1, x2, x3, x4, x5, x6, x7⟩ := KF.out wc (Touch.refl _ _)
   have T0 : Touch (· = gA) wc wc := Touch.refl _ wc
   have FD : Touch (· = gA) wc wc.drew := T0.drew
   go_upto_region 5 with (fail)
   go_region_held3 (fun wx => wx.cell? ⟨g, 0, none⟩ = some (.slice (some ⟨gA, oA, none⟩) buf2.length c2) ∧ wx.cell? ⟨g, 1, none⟩ = some (.int .i64 a2) ∧ wx.cell? ⟨g, 2, none⟩ = some (.int .i64 q.length) ∧ wx.cell? ⟨b0, 0, none⟩ = some (.int .i64 v.kind) ∧ wx.cell? ⟨b0, 1, none⟩ = some (.int .i64 v.sq) ∧ wx.cell? ⟨b0, 2, none⟩ = some (.int .u32 v.n) ∧ wx.cell? ⟨b0, 3, none⟩ = some (.int .u32 v.ps) ∧ wx.cell? ⟨b0, 4, none⟩ = some (.int .u32 v.mr) ∧ wx.cell? ⟨b0, 5, none⟩ = some (.slice v.lA v.ln v.lc) ∧ wx.cell? ⟨b0, 6, none⟩ = some (.bool v.self) ∧ wx.cell? ⟨b0, 7, none⟩ = some (.string v.data))
    ((with_reducible refine KF.out _ ?_; first | with_reducible assumption | with_reducible exact FD | with_reducible exact T0.drewN _ | exact (((((((((T0.drewN _).st rfl).st rfl).st rfl).st rfl).st rfl).st rfl).st rfl).st rfl)))
    (first | (go_simp; go_at_call 84; refine (ringPdu_place g _ c2 a2 q.length _ _ (by exact c0) (by exact c1) (by omega) (by omega) (by omega) (by omega) p hp).mono ?_; rintro e w' ⟨rfl, m2, rfl⟩))
   all_goals
    go_wp2
    go_ret
    exact ⟨rfl, some gA, HR.out.same rfl, HTO.out _ ⟨HT.out.os, HT.out.tape, HT.out.output, HT.out.size, HT.out.block⟩, fun k hk => by injection hk with hk; subst hk; exact HZ0.out _ (HA.out _ rfl)⟩
 ·rw [if_neg hlt, if_neg hlt]
  have hl := h.len_le
  have hr0 : ((most : Int) - (q.length : Int) == 0) = true := by simp; omega
  go_enter Tryz.func76, Tryz.ntmps76
  go_upto_region 1 with (fail)
  rw [<- hw0, <- hb0]
  clear hw0 hb0
  go_wp2_with fail
  refine (ringPdu_room g b most q w0 h).mono ?_
  rintro e w1 ⟨rfl, m, rfl⟩
  go_wp2
  go_ret
  exact ⟨rfl, b, h.same rfl, HTO.out _ ((Touch.refl _ w0).drewN _), fun k hk => .inl hk⟩
set_option maxRecDepth 20000

theorem ringPdu_first (g : Nat) (b : Option Nat) (most : Nat) (u : Cn.Pd) (q : List Cn.Pd) (w : World) (h : RingPdu w g b most (u :: q)) :
  Calls Tryz.prog 83 #[.pointer (some ⟨g, 0, none⟩)] w fun e w' => e = .returned (.tuple #[pduV u, .int .i64 0]) ∧ Fresh w w' := by
 have hlg := h.lt
 obtain ⟨A, c, a, buf, hb, hs, rfl, hm1, hm2, hg⟩ := h
 obtain ⟨hal, hget⟩ := hg.first (by simp)
 rw [List.getElem?_eq_getElem hal] at hget
 have hget : buf[a] = u := by injection hget
 obtain ⟨gA, oA, rfl, z⟩ := hs.rd.pdu8 a hal
 rw [hget] at z
 have hlA : gA < w.heap.size := hs.lt _ rfl
 obtain ⟨w1, hw1⟩ := xq (w.alloc (.cells #[.int .i64 0, .int .i64 0, .int .u32 0, .int .u32 0, .int .u32 0, .slice none 0 0, .bool false, .string { data := #[] }] 58))
 obtain ⟨b2, hb2⟩ := xq w.heap.size
 have HF1 : Hid (Fresh w w1) := by rw [hw1]; exact (Touch.refl _ _).alloc _
 have BZ : Hid (Blk w1 b2 58 [.int .i64 0, .int .i64 0, .int .u32 0, .int .u32 0, .int .u32 0, .slice none 0 0, .bool false, .string ByteArray.empty]) := by rw [hw1, hb2]; exact Blk.new w _ _
 have KF : Hid (∀ wx, Touch (· = b2) w1 wx -> wx.cell? ⟨g, 0, none⟩ = some (.slice (some ⟨gA, oA, none⟩) buf.length c) ∧ wx.cell? ⟨g, 1, none⟩ = some (.int .i64 a) ∧ wx.cell? ⟨gA, oA + a * 8, none⟩ = some (.int .i64 u.kind) ∧ wx.cell? ⟨gA, oA + a * 8 + 1, none⟩ = some (.int .i64 u.sq) ∧ wx.cell? ⟨gA, oA + a * 8 + 2, none⟩ = some (.int .u32 u.n) ∧ wx.cell? ⟨gA, oA + a * 8 + 3, none⟩ = some (.int .u32 u.ps) ∧ wx.cell? ⟨gA, oA + a * 8 + 4, none⟩ = some (.int .u32 u.mr) ∧ wx.cell? ⟨gA, oA + a * 8 + 5, none⟩ = some (.slice u.lA u.ln u.lc) ∧ wx.cell? ⟨gA, oA + a * 8 + 6, none⟩ = some (.bool u.self) ∧ wx.cell? ⟨gA, oA + a * 8 + 7, none⟩ = some (.string u.data)) := fun wx hw => by
  have t : Touch (· = b2) w wx := (HF1.out.mono (fun _ _ e => e.elim)).trans hw (fun _ _ e => e)
  have h1 := t.blk hb (fun e => by omega)
  have hk : ∀ o v, w.cell? ⟨gA, o, none⟩ = some v -> wx.cell? ⟨gA, o, none⟩ = some v := fun o v hv => by
   rw [<- hv]; unfold World.cell?; simp only [t.block gA hlA (fun e => by omega)]
  obtain ⟨z0, z1, z2, z3, z4, z5, z6, z7⟩ := z
  exact ⟨h1.cell 0, h1.cell 1, hk _ _ z0, hk _ _ z1, hk _ _ z2, hk _ _ z3, hk _ _ z4, hk _ _ z5, hk _ _ z6, hk _ _ z7⟩
 have c2 : w1.cell? ⟨g, 2, none⟩ = some (.int .i64 ((u :: q).length : Nat)) := (HF1.out.blk hb (fun e => e)).cell 2
 have hq0 : (((u :: q).length : Int) == 0) = false := by simp; omega
 generalize (u :: q).length = len at c2 hq0
 obtain ⟨c0, c1, e0, e1, e2, e3, e4, e5, e6, e7⟩ := KF.out w1 (Touch.refl _ _)
 have f0 := BZ.out.frozen 0
 have f1 := BZ.out.frozen 1
 have f2 := BZ.out.frozen 2
 have f3 := BZ.out.frozen 3
 have f4 := BZ.out.frozen 4
 have f5 := BZ.out.frozen 5
 have f6 := BZ.out.frozen 6
 have f7 := BZ.out.frozen 7
 have y0 : w1.cell? ⟨b2, 0, none⟩ = some (.int .i64 0) := BZ.out.cell 0
 have y1 : w1.cell? ⟨b2, 1, none⟩ = some (.int .i64 0) := BZ.out.cell 1
 have y2 : w1.cell? ⟨b2, 2, none⟩ = some (.int .u32 0) := BZ.out.cell 2
 have y3 : w1.cell? ⟨b2, 3, none⟩ = some (.int .u32 0) := BZ.out.cell 3
 have y4 : w1.cell? ⟨b2, 4, none⟩ = some (.int .u32 0) := BZ.out.cell 4
 have y5 : w1.cell? ⟨b2, 5, none⟩ = some (.slice none 0 0) := BZ.out.cell 5
 have y6 : w1.cell? ⟨b2, 6, none⟩ = some (.bool false) := BZ.out.cell 6
 have y7 : w1.cell? ⟨b2, 7, none⟩ = some (.string ByteArray.empty) := BZ.out.cell 7
 have hcap := hs.1
 have hcapm := hs.2.1
 have BF := lh (BZ.out.set8 (.int .i64 u.kind) (.int .i64 u.sq) (.int .u32 u.n) (.int .u32 u.ps) (.int .u32 u.mr) (.slice u.lA u.ln u.lc) (.bool u.self) (.string u.data))
 have FF := lh (HF1.out.st8 (g := b2) (by omega) (.int .i64 u.kind) (.int .i64 u.sq) (.int .u32 u.n) (.int .u32 u.ps) (.int .u32 u.mr) (.slice u.lA u.ln u.lc) (.bool u.self) (.string u.data))
 clear hb hs hg hget z
 have T0 : Touch (· = b2) w1 w1 := Touch.refl _ w1
 have T8 : Touch (· = b2) w1 ((((((((w1.setCell ⟨b2, 0, none⟩ (.int .i64 u.kind)).setCell ⟨b2, 1, none⟩ (.int .i64 u.sq)).setCell ⟨b2, 2, none⟩ (.int .u32 u.n)).setCell ⟨b2, 3, none⟩ (.int .u32 u.ps)).setCell ⟨b2, 4, none⟩ (.int .u32 u.mr)).setCell ⟨b2, 5, none⟩ (.slice u.lA u.ln u.lc)).setCell ⟨b2, 6, none⟩ (.bool u.self)).setCell ⟨b2, 7, none⟩ (.string u.data)).drew := ((((((((T0.st rfl).st rfl).st rfl).st rfl).st rfl).st rfl).st rfl).st rfl).drew
 have TD : Touch (· = b2) w1 w1.drew := T0.drew
 unfold pduV
 go_enter Tryz.func83, Tryz.ntmps83
 go_upto_region 1 with (fail)
 rw [<- hw1, <- hb2]
 clear hw1 hb2
 go_upto_region 4 with (fail)
 go_region_held3 (fun wx => wx.cell? ⟨g, 0, none⟩ = some (.slice (some ⟨gA, oA, none⟩) buf.length c) ∧ wx.cell? ⟨g, 1, none⟩ = some (.int .i64 a) ∧ wx.cell? ⟨gA, oA + a * 8, none⟩ = some (.int .i64 u.kind) ∧ wx.cell? ⟨gA, oA + a * 8 + 1, none⟩ = some (.int .i64 u.sq) ∧ wx.cell? ⟨gA, oA + a * 8 + 2, none⟩ = some (.int .u32 u.n) ∧ wx.cell? ⟨gA, oA + a * 8 + 3, none⟩ = some (.int .u32 u.ps) ∧ wx.cell? ⟨gA, oA + a * 8 + 4, none⟩ = some (.int .u32 u.mr) ∧ wx.cell? ⟨gA, oA + a * 8 + 5, none⟩ = some (.slice u.lA u.ln u.lc) ∧ wx.cell? ⟨gA, oA + a * 8 + 6, none⟩ = some (.bool u.self) ∧ wx.cell? ⟨gA, oA + a * 8 + 7, none⟩ = some (.string u.data))
  ((with_reducible refine KF.out _ ?_; with_reducible assumption))
  (fail)
 all_goals
  clear KF T8 TD T0 c0 c1 c2 e0 e1 e2 e3 e4 e5 e6 e7 y0 y1 y2 y3 y4 y5 y6 y7 f0 f1 f2 f3 f4 f5 f6 f7 BZ HF1
  have BD : Blk ((((((((w1.setCell ⟨b2, 0, none⟩ (.int .i64 u.kind)).setCell ⟨b2, 1, none⟩ (.int .i64 u.sq)).setCell ⟨b2, 2, none⟩ (.int .u32 u.n)).setCell ⟨b2, 3, none⟩ (.int .u32 u.ps)).setCell ⟨b2, 4, none⟩ (.int .u32 u.mr)).setCell ⟨b2, 5, none⟩ (.slice u.lA u.ln u.lc)).setCell ⟨b2, 6, none⟩ (.bool u.self)).setCell ⟨b2, 7, none⟩ (.string u.data)).drew b2 58 [.int .i64 u.kind, .int .i64 u.sq, .int .u32 u.n, .int .u32 u.ps, .int .u32 u.mr, .slice u.lA u.ln u.lc, .bool u.self, .string u.data] := ((Touch.refl (fun _ => False) _).drew).blk BF.out (fun e => e)
  have HF : Hid (Fresh w ((((((((w1.setCell ⟨b2, 0, none⟩ (.int .i64 u.kind)).setCell ⟨b2, 1, none⟩ (.int .i64 u.sq)).setCell ⟨b2, 2, none⟩ (.int .u32 u.n)).setCell ⟨b2, 3, none⟩ (.int .u32 u.ps)).setCell ⟨b2, 4, none⟩ (.int .u32 u.mr)).setCell ⟨b2, 5, none⟩ (.slice u.lA u.ln u.lc)).setCell ⟨b2, 6, none⟩ (.bool u.self)).setCell ⟨b2, 7, none⟩ (.string u.data)).drew) := FF.out.drew
  clear FF BF
  go_wp2
  generalize ((((((((w1.setCell ⟨b2, 0, none⟩ (.int .i64 u.kind)).setCell ⟨b2, 1, none⟩ (.int .i64 u.sq)).setCell ⟨b2, 2, none⟩ (.int .u32 u.n)).setCell ⟨b2, 3, none⟩ (.int .u32 u.ps)).setCell ⟨b2, 4, none⟩ (.int .u32 u.mr)).setCell ⟨b2, 5, none⟩ (.slice u.lA u.ln u.lc)).setCell ⟨b2, 6, none⟩ (.bool u.self)).setCell ⟨b2, 7, none⟩ (.string u.data)).drew = W at BD HF ⊢
  have x0 : W.cell? ⟨b2, 0, none⟩ = some (.int .i64 u.kind) := BD.cell 0
  have x1 : W.cell? ⟨b2, 1, none⟩ = some (.int .i64 u.sq) := BD.cell 1
  have x2 : W.cell? ⟨b2, 2, none⟩ = some (.int .u32 u.n) := BD.cell 2
  have x3 : W.cell? ⟨b2, 3, none⟩ = some (.int .u32 u.ps) := BD.cell 3
  have x4 : W.cell? ⟨b2, 4, none⟩ = some (.int .u32 u.mr) := BD.cell 4
  have x5 : W.cell? ⟨b2, 5, none⟩ = some (.slice u.lA u.ln u.lc) := BD.cell 5
  have x6 : W.cell? ⟨b2, 6, none⟩ = some (.bool u.self) := BD.cell 6
  have x7 : W.cell? ⟨b2, 7, none⟩ = some (.string u.data) := BD.cell 7
  exact bodyPost_ret (v := .tuple #[.agg #[.int .i64 u.kind, .int .i64 u.sq, .int .u32 u.n, .int .u32 u.ps, .int .u32 u.mr, .slice u.lA u.ln u.lc, .bool u.self, .string u.data], .int .i64 0]) (by simp [results, Tryz.results83, go_sem, x0, x1, x2, x3, x4, x5, x6, x7]) rfl ⟨rfl, HF.out⟩
set_option maxRecDepth 20000

theorem ringPdu_take (g : Nat) (b : Option Nat) (most : Nat) (u : Cn.Pd) (q : List Cn.Pd) (w : World) (h : RingPdu w g b most (u :: q)) :
  Calls Tryz.prog 35 #[.pointer (some ⟨g, 0, none⟩)] w fun e w' => e = .returned (.tuple #[pduV u, .int .i64 0]) ∧ RingPdu w' g b most q ∧ Touch (Foot g b) w w' := by
 obtain ⟨w1, hw1⟩ := xq (w.alloc (.cells #[.int .i64 0, .int .i64 0, .int .u32 0, .int .u32 0, .int .u32 0, .slice none 0 0, .bool false, .string { data := #[] }] 58))
 obtain ⟨b2, hb2⟩ := xq w.heap.size
 have HF1 : Hid (Fresh w w1) := by rw [hw1]; exact (Touch.refl _ _).alloc _
 have BZ : Hid (Blk w1 b2 58 [.int .i64 0, .int .i64 0, .int .u32 0, .int .u32 0, .int .u32 0, .slice none 0 0, .bool false, .string ByteArray.empty]) := by rw [hw1, hb2]; exact Blk.new w _ _
 have hlg := h.lt
 have hql : q.length + 1 <= 4096 := by have := h.len_le; simp at this; omega
 have h1 := h.touch HF1.out (fun e => e) (fun _ _ e => e)
 have HFI := lh (ringPdu_first g b most u q w1 h1)
 obtain ⟨A, c, a, buf, hb, hs, hA, hm1, hm2, hg⟩ := h
 obtain ⟨hal, -⟩ := hg.first (by simp)
 have hg1 := hg.take (by simp) pduE.zel
 simp only [List.tail_cons] at hg1
 obtain ⟨gA, oA, rfl, z⟩ := hs.rd.pdu8 a hal
 have hlA : gA < w.heap.size := hs.lt _ rfl
 have hne : gA ≠ g := hs.blk_ne hb (by decide) ⟨gA, oA, none⟩ rfl
 have hne' : g ≠ gA := Ne.symm hne
 obtain ⟨e, he⟩ := xq (buf[a])
 rw [<- he] at z
 clear he h1
 obtain rfl : b = some gA := by rw [<- hA]; rfl
 have hcap := hs.1
 have hcapm := hs.2.1
 have hq0 : (((u :: q).length : Int)) - 1 = (q.length : Int) := by simp
 have HBF : Hid (∀ W, Fresh w W -> Blk W g 170 [.slice (some ⟨gA, oA, none⟩) buf.length c, .int .i64 a, .int .i64 ((u :: q).length : Nat), .int .i64 most] ∧ Sl pduE W (some ⟨gA, oA, none⟩) c buf) := fun W hW => ⟨hW.blk hb (fun e => e), hs.touch hW (fun _ _ e => e)⟩
 generalize (u :: q).length = len at HBF hq0
 clear hb hs hg hA
 unfold pduV at HFI ⊢
 go_enter Tryz.func35, Tryz.ntmps35
 go_upto_region 1 with (fail)
 rw [<- hw1, <- hb2]
 have HB2 : Hid (w.heap.size <= b2 ∧ b2 < w1.heap.size) := ⟨by omega, BZ.out.lt⟩
 clear hw1 hb2
 go_upto_region 4 with (go_at_call 83; (with_reducible refine HFI.out.mono ?_); rintro e w2 ⟨rfl, F2⟩)
 obtain ⟨b4, hb4⟩ := xq w2.heap.size
 obtain ⟨w3, hw3⟩ := xq (w2.alloc (.cells #[.int .i64 u.kind, .int .i64 u.sq, .int .u32 u.n, .int .u32 u.ps, .int .u32 u.mr, .slice u.lA u.ln u.lc, .bool u.self, .string u.data] 58))
 obtain ⟨b6, hb60⟩ := xq (b4 + 1)
 obtain ⟨w4, hw4⟩ := xq (w3.alloc (.cells #[.int .i64 0, .int .i64 0, .int .u32 0, .int .u32 0, .int .u32 0, .slice none 0 0, .bool false, .string { data := #[] }] 58))
 rw [<- hb4, <- hw3, <- hb60, <- hw4]
 have hb6 : b6 = w3.heap.size := by rw [hb60, hw3, hb4]; simp
 clear hb60
 have hF34 : Fresh w3 w4 := by rw [hw4]; exact (Touch.refl _ _).alloc _
 have hF23 : Fresh w2 w3 := by rw [hw3]; exact (Touch.refl _ _).alloc _
 have hF14 : Fresh w1 w4 := (F2.trans hF23 (fun _ _ e => e)).trans hF34 (fun _ _ e => e)
 have HF4 : Hid (Fresh w w4) := HF1.out.trans hF14 (fun _ _ e => e)
 have hs12 := F2.size
 have hs23 := hF23.size
 have h2lt := HB2.out.2
 have h4lt : b4 < w3.heap.size := by rw [hw3, hb4]; simp
 have h6lt : b6 < w4.heap.size := by rw [hw4, hb6]; simp
 have B2 : Hid (Blk w4 b2 58 [.int .i64 0, .int .i64 0, .int .u32 0, .int .u32 0, .int .u32 0, .slice none 0 0, .bool false, .string ByteArray.empty]) := hF14.blk BZ.out (fun e => e)
 have B4 : Hid (Blk w4 b4 58 [.int .i64 u.kind, .int .i64 u.sq, .int .u32 u.n, .int .u32 u.ps, .int .u32 u.mr, .slice u.lA u.ln u.lc, .bool u.self, .string u.data]) := hF34.blk (by rw [hw3, hb4]; exact Blk.new w2 _ _) (fun e => e)
 have B6 : Hid (Blk w4 b6 58 [.int .i64 0, .int .i64 0, .int .u32 0, .int .u32 0, .int .u32 0, .slice none 0 0, .bool false, .string ByteArray.empty]) := by rw [hw4, hb6]; exact Blk.new w3 _ _
 have HNE : Hid (gA < w.heap.size ∧ w.heap.size <= b2 ∧ b2 < b4 ∧ b4 < b6) := ⟨hlA, HB2.out.1, by omega, by omega⟩
 have hB4 := HBF.out w4 HF4.out
 have KF : Hid (∀ wx, Touch (· = gA) w4 wx -> wx.cell? ⟨g, 0, none⟩ = some (.slice (some ⟨gA, oA, none⟩) buf.length c) ∧ wx.cell? ⟨g, 1, none⟩ = some (.int .i64 a) ∧ wx.cell? ⟨b6, 0, none⟩ = some (.int .i64 0) ∧ wx.cell? ⟨b6, 1, none⟩ = some (.int .i64 0) ∧ wx.cell? ⟨b6, 2, none⟩ = some (.int .u32 0) ∧ wx.cell? ⟨b6, 3, none⟩ = some (.int .u32 0) ∧ wx.cell? ⟨b6, 4, none⟩ = some (.int .u32 0) ∧ wx.cell? ⟨b6, 5, none⟩ = some (.slice none 0 0) ∧ wx.cell? ⟨b6, 6, none⟩ = some (.bool false) ∧ wx.cell? ⟨b6, 7, none⟩ = some (.string { data := #[] })) := fun wx hw => by
  have h1 := hw.blk hB4.1 hne'
  have h2 := hw.blk B6.out (fun e => by have := HNE.out; omega)
  exact ⟨h1.cell 0, h1.cell 1, h2.cell 0, h2.cell 1, h2.cell 2, h2.cell 3, h2.cell 4, h2.cell 5, h2.cell 6, h2.cell 7⟩
 have hfz := fun j => hB4.2.frozen gA oA rfl (oA + a * 8 + j)
 have hfz0 := hB4.2.frozen gA oA rfl (oA + a * 8)
 obtain ⟨g', o', e9, z9⟩ := hB4.2.rd.pdu8 a hal
 injection e9 with e9
 injection e9 with e91 e92
 subst e91 e92
 obtain ⟨z0, z1, z2, z3, z4, z5, z6, z7⟩ := z9
 have T0 : Touch (· = gA) w4 w4 := Touch.refl _ w4
 have TD : Touch (· = gA) w4 w4.drew := T0.drew
 have T8 : Touch (· = gA) w4 ((((((((w4.setCell ⟨gA, oA + a * 8, none⟩ (.int .i64 0)).setCell ⟨gA, oA + a * 8 + 1, none⟩ (.int .i64 0)).setCell ⟨gA, oA + a * 8 + 2, none⟩ (.int .u32 0)).setCell ⟨gA, oA + a * 8 + 3, none⟩ (.int .u32 0)).setCell ⟨gA, oA + a * 8 + 4, none⟩ (.int .u32 0)).setCell ⟨gA, oA + a * 8 + 5, none⟩ (.slice none 0 0)).setCell ⟨gA, oA + a * 8 + 6, none⟩ (.bool false)).setCell ⟨gA, oA + a * 8 + 7, none⟩ (.string { data := #[] })).drew := ((((((((T0.st rfl).st rfl).st rfl).st rfl).st rfl).st rfl).st rfl).st rfl).drew
 have HSE := lh (hB4.2.setE a hal pduE.zel)
 obtain ⟨c0, c1, x0, x1, x2, x3, x4, x5, x6, x7⟩ := KF.out w4 T0
 clear hw3 hw4 hb4 hb6 hF34 hF23 hF14 hs12 hs23 h2lt h4lt h6lt hB4 F2 HFI BZ z HF1
 go_region_held3 (fun wx => wx.cell? ⟨g, 0, none⟩ = some (.slice (some ⟨gA, oA, none⟩) buf.length c) ∧ wx.cell? ⟨g, 1, none⟩ = some (.int .i64 a) ∧ wx.cell? ⟨b6, 0, none⟩ = some (.int .i64 0) ∧ wx.cell? ⟨b6, 1, none⟩ = some (.int .i64 0) ∧ wx.cell? ⟨b6, 2, none⟩ = some (.int .u32 0) ∧ wx.cell? ⟨b6, 3, none⟩ = some (.int .u32 0) ∧ wx.cell? ⟨b6, 4, none⟩ = some (.int .u32 0) ∧ wx.cell? ⟨b6, 5, none⟩ = some (.slice none 0 0) ∧ wx.cell? ⟨b6, 6, none⟩ = some (.bool false) ∧ wx.cell? ⟨b6, 7, none⟩ = some (.string { data := #[] }))
  ((with_reducible refine KF.out _ ?_; with_reducible assumption))
  (fail)
 all_goals
  have B2' := T8.blk B2.out (fun e => by have := HNE.out; omega)
  have B4' := T8.blk B4.out (fun e => by have := HNE.out; omega)
  have HB5 := T8.blk (HBF.out w4 HF4.out).1 hne'
  have S8 : Sl pduE ((((((((w4.setCell ⟨gA, oA + a * 8, none⟩ (.int .i64 0)).setCell ⟨gA, oA + a * 8 + 1, none⟩ (.int .i64 0)).setCell ⟨gA, oA + a * 8 + 2, none⟩ (.int .u32 0)).setCell ⟨gA, oA + a * 8 + 3, none⟩ (.int .u32 0)).setCell ⟨gA, oA + a * 8 + 4, none⟩ (.int .u32 0)).setCell ⟨gA, oA + a * 8 + 5, none⟩ (.slice none 0 0)).setCell ⟨gA, oA + a * 8 + 6, none⟩ (.bool false)).setCell ⟨gA, oA + a * 8 + 7, none⟩ (.string { data := #[] })) (some ⟨gA, oA, none⟩) c (buf.set a pduE.zel) := HSE.out
  have S5 := S8.touch ((Touch.refl (fun _ => False) _).drew) (fun _ _ e => e)
  have T5 : Touch (Foot g (some gA)) w ((((((((w4.setCell ⟨gA, oA + a * 8, none⟩ (.int .i64 0)).setCell ⟨gA, oA + a * 8 + 1, none⟩ (.int .i64 0)).setCell ⟨gA, oA + a * 8 + 2, none⟩ (.int .u32 0)).setCell ⟨gA, oA + a * 8 + 3, none⟩ (.int .u32 0)).setCell ⟨gA, oA + a * 8 + 4, none⟩ (.int .u32 0)).setCell ⟨gA, oA + a * 8 + 5, none⟩ (.slice none 0 0)).setCell ⟨gA, oA + a * 8 + 6, none⟩ (.bool false)).setCell ⟨gA, oA + a * 8 + 7, none⟩ (.string { data := #[] })).drew := (HF4.out.mono (fun _ _ e => e.elim)).trans T8 (fun k _ e => .inr (by rw [e]))
  clear T8 TD T0 S8 HSE KF x0 x1 x2 x3 x4 x5 x6 x7 z0 z1 z2 z3 z4 z5 z6 z7 hfz hfz0 c0 c1 B2 B4 B6 HBF
  generalize ((((((((w4.setCell ⟨gA, oA + a * 8, none⟩ (.int .i64 0)).setCell ⟨gA, oA + a * 8 + 1, none⟩ (.int .i64 0)).setCell ⟨gA, oA + a * 8 + 2, none⟩ (.int .u32 0)).setCell ⟨gA, oA + a * 8 + 3, none⟩ (.int .u32 0)).setCell ⟨gA, oA + a * 8 + 4, none⟩ (.int .u32 0)).setCell ⟨gA, oA + a * 8 + 5, none⟩ (.slice none 0 0)).setCell ⟨gA, oA + a * 8 + 6, none⟩ (.bool false)).setCell ⟨gA, oA + a * 8 + 7, none⟩ (.string { data := #[] })).drew = W5 at *
  obtain ⟨p, hp⟩ : ∃ p, Hid ((a + 1) % buf.length = p) := ⟨_, rfl⟩
  have c0 : W5.cell? ⟨g, 0, none⟩ = some (.slice (some ⟨gA, oA, none⟩) buf.length c) := HB5.cell 0
  have c1 : W5.cell? ⟨g, 1, none⟩ = some (.int .i64 a) := HB5.cell 1
  have c2 : W5.cell? ⟨g, 2, none⟩ = some (.int .i64 len) := HB5.cell 2
  have f1 := HB5.frozen 1
  have f2 := HB5.frozen 2
  have HX := lh (And.intro HB5 (And.intro B2' (And.intro B4' (And.intro S5 T5))))
  clear HB5 B2' B4' S5 T5
  go_upto_region 7 with (go_at_call 84; refine (ringPdu_place g _ c a 1 buf.length _ (by exact c0) (by exact c1) (by omega) (by omega) (by omega) (by omega) p hp).mono ?_; rintro e w6 ⟨rfl, m, rfl⟩)
  obtain ⟨HB5, B2', B4', S5, T5⟩ := HX.out
  have T6 : Touch (· = g) W5 (((W5.drewN m).setCell ⟨g, 1, none⟩ (.int .i64 p)).setCell ⟨g, 2, none⟩ (.int .i64 (q.length : Int))) := (((Touch.refl (· = g) W5).drewN m).st rfl).st rfl
  have HB6 : Blk (((W5.drewN m).setCell ⟨g, 1, none⟩ (.int .i64 p)).setCell ⟨g, 2, none⟩ (.int .i64 (q.length : Int))) g 170 [.slice (some ⟨gA, oA, none⟩) buf.length c, .int .i64 p, .int .i64 (q.length : Int), .int .i64 most] := ((HB5.drewN m).set 1 _).set 2 _
  clear c0 c1 c2 f1 f2 HX HB5
  generalize (((W5.drewN m).setCell ⟨g, 1, none⟩ (.int .i64 p)).setCell ⟨g, 2, none⟩ (.int .i64 (q.length : Int))) = W6 at *
  have HR6 : Hid (RingPdu W6 g (some gA) most q) := by
   refine ⟨some ⟨gA, oA, none⟩, c, p, buf.set a pduE.zel, ?_, S5.touch T6 (fun ad e => by injection e with e; subst e; exact hne), rfl, by simpa using hm1, hm2, ?_⟩
   ·rw [List.length_set]; exact HB6
   ·rw [<- hp.out]; exact hg1
  have HT6 : Hid (Touch (Foot g (some gA)) w W6) := T5.trans T6 (fun k _ e => .inl e)
  have B26 : Hid (Blk W6 b2 58 [.int .i64 0, .int .i64 0, .int .u32 0, .int .u32 0, .int .u32 0, .slice none 0 0, .bool false, .string ByteArray.empty]) := T6.blk B2' (fun e => by have := HNE.out; omega)
  have B46 := T6.blk B4' (fun e => by have := HNE.out; omega)
  clear HB6 T6 S5 T5 B2' B4'
  have HGW : Hid (g < w.heap.size) := hlg
  have v0 : W6.cell? ⟨b4, 0, none⟩ = some (.int .i64 u.kind) := B46.cell 0
  have v1 : W6.cell? ⟨b4, 1, none⟩ = some (.int .i64 u.sq) := B46.cell 1
  have v2 : W6.cell? ⟨b4, 2, none⟩ = some (.int .u32 u.n) := B46.cell 2
  have v3 : W6.cell? ⟨b4, 3, none⟩ = some (.int .u32 u.ps) := B46.cell 3
  have v4 : W6.cell? ⟨b4, 4, none⟩ = some (.int .u32 u.mr) := B46.cell 4
  have v5 : W6.cell? ⟨b4, 5, none⟩ = some (.slice u.lA u.ln u.lc) := B46.cell 5
  have v6 : W6.cell? ⟨b4, 6, none⟩ = some (.bool u.self) := B46.cell 6
  have v7 : W6.cell? ⟨b4, 7, none⟩ = some (.string u.data) := B46.cell 7
  have y0 : W6.cell? ⟨b2, 0, none⟩ = some (.int .i64 0) := B26.out.cell 0
  have y1 : W6.cell? ⟨b2, 1, none⟩ = some (.int .i64 0) := B26.out.cell 1
  have y2 : W6.cell? ⟨b2, 2, none⟩ = some (.int .u32 0) := B26.out.cell 2
  have y3 : W6.cell? ⟨b2, 3, none⟩ = some (.int .u32 0) := B26.out.cell 3
  have y4 : W6.cell? ⟨b2, 4, none⟩ = some (.int .u32 0) := B26.out.cell 4
  have y5 : W6.cell? ⟨b2, 5, none⟩ = some (.slice none 0 0) := B26.out.cell 5
  have y6 : W6.cell? ⟨b2, 6, none⟩ = some (.bool false) := B26.out.cell 6
  have y7 : W6.cell? ⟨b2, 7, none⟩ = some (.string ByteArray.empty) := B26.out.cell 7
  have f0 := B26.out.frozen 0
  have f1 := B26.out.frozen 1
  have f2 := B26.out.frozen 2
  have f3 := B26.out.frozen 3
  have f4 := B26.out.frozen 4
  have f5 := B26.out.frozen 5
  have f6 := B26.out.frozen 6
  have f7 := B26.out.frozen 7
  have TR : Touch (· = b2) W6 ((((((((W6.setCell ⟨b2, 0, none⟩ (.int .i64 u.kind)).setCell ⟨b2, 1, none⟩ (.int .i64 u.sq)).setCell ⟨b2, 2, none⟩ (.int .u32 u.n)).setCell ⟨b2, 3, none⟩ (.int .u32 u.ps)).setCell ⟨b2, 4, none⟩ (.int .u32 u.mr)).setCell ⟨b2, 5, none⟩ (.slice u.lA u.ln u.lc)).setCell ⟨b2, 6, none⟩ (.bool u.self)).setCell ⟨b2, 7, none⟩ (.string u.data)) := ((((((((Touch.refl (· = b2) W6).st rfl).st rfl).st rfl).st rfl).st rfl).st rfl).st rfl).st rfl
  have BR : Blk ((((((((W6.setCell ⟨b2, 0, none⟩ (.int .i64 u.kind)).setCell ⟨b2, 1, none⟩ (.int .i64 u.sq)).setCell ⟨b2, 2, none⟩ (.int .u32 u.n)).setCell ⟨b2, 3, none⟩ (.int .u32 u.ps)).setCell ⟨b2, 4, none⟩ (.int .u32 u.mr)).setCell ⟨b2, 5, none⟩ (.slice u.lA u.ln u.lc)).setCell ⟨b2, 6, none⟩ (.bool u.self)).setCell ⟨b2, 7, none⟩ (.string u.data)) b2 58 [.int .i64 u.kind, .int .i64 u.sq, .int .u32 u.n, .int .u32 u.ps, .int .u32 u.mr, .slice u.lA u.ln u.lc, .bool u.self, .string u.data] := B26.out.set8 _ _ _ _ _ _ _ _
  have HBR := lh BR
  clear BR
  have HRR : Hid (RingPdu ((((((((W6.setCell ⟨b2, 0, none⟩ (.int .i64 u.kind)).setCell ⟨b2, 1, none⟩ (.int .i64 u.sq)).setCell ⟨b2, 2, none⟩ (.int .u32 u.n)).setCell ⟨b2, 3, none⟩ (.int .u32 u.ps)).setCell ⟨b2, 4, none⟩ (.int .u32 u.mr)).setCell ⟨b2, 5, none⟩ (.slice u.lA u.ln u.lc)).setCell ⟨b2, 6, none⟩ (.bool u.self)).setCell ⟨b2, 7, none⟩ (.string u.data)) g (some gA) most q) := HR6.out.touch TR (fun e => by have := HNE.out; have := HGW.out; omega) (fun k e e2 => by injection e with e; have := HNE.out; omega)
  have HTR : Hid (Touch (Foot g (some gA)) w ((((((((W6.setCell ⟨b2, 0, none⟩ (.int .i64 u.kind)).setCell ⟨b2, 1, none⟩ (.int .i64 u.sq)).setCell ⟨b2, 2, none⟩ (.int .u32 u.n)).setCell ⟨b2, 3, none⟩ (.int .u32 u.ps)).setCell ⟨b2, 4, none⟩ (.int .u32 u.mr)).setCell ⟨b2, 5, none⟩ (.slice u.lA u.ln u.lc)).setCell ⟨b2, 6, none⟩ (.bool u.self)).setCell ⟨b2, 7, none⟩ (.string u.data))) := HT6.out.trans TR (fun k hk e => by have := HNE.out; omega)
  clear TR
  go_wp2
  generalize ((((((((W6.setCell ⟨b2, 0, none⟩ (.int .i64 u.kind)).setCell ⟨b2, 1, none⟩ (.int .i64 u.sq)).setCell ⟨b2, 2, none⟩ (.int .u32 u.n)).setCell ⟨b2, 3, none⟩ (.int .u32 u.ps)).setCell ⟨b2, 4, none⟩ (.int .u32 u.mr)).setCell ⟨b2, 5, none⟩ (.slice u.lA u.ln u.lc)).setCell ⟨b2, 6, none⟩ (.bool u.self)).setCell ⟨b2, 7, none⟩ (.string u.data)) = W7 at HBR HRR HTR ⊢
  have BR := HBR.out
  have x0 : W7.cell? ⟨b2, 0, none⟩ = some (.int .i64 u.kind) := BR.cell 0
  have x1 : W7.cell? ⟨b2, 1, none⟩ = some (.int .i64 u.sq) := BR.cell 1
  have x2 : W7.cell? ⟨b2, 2, none⟩ = some (.int .u32 u.n) := BR.cell 2
  have x3 : W7.cell? ⟨b2, 3, none⟩ = some (.int .u32 u.ps) := BR.cell 3
  have x4 : W7.cell? ⟨b2, 4, none⟩ = some (.int .u32 u.mr) := BR.cell 4
  have x5 : W7.cell? ⟨b2, 5, none⟩ = some (.slice u.lA u.ln u.lc) := BR.cell 5
  have x6 : W7.cell? ⟨b2, 6, none⟩ = some (.bool u.self) := BR.cell 6
  have x7 : W7.cell? ⟨b2, 7, none⟩ = some (.string u.data) := BR.cell 7
  exact bodyPost_ret (v := .tuple #[.agg #[.int .i64 u.kind, .int .i64 u.sq, .int .u32 u.n, .int .u32 u.ps, .int .u32 u.mr, .slice u.lA u.ln u.lc, .bool u.self, .string u.data], .int .i64 0]) (by simp [results, Tryz.results35, go_sem, x0, x1, x2, x3, x4, x5, x6, x7]) rfl ⟨rfl, HRR.out, HTR.out⟩
end Go.Proofs.YtipaobpmojahaaaGreat
