/-
  RecvAnyOrder's closure: a message goes to the receiver, what it hands back is put behind what was got.
-/
import Derived.Test.YtpjmgdoekeknjaaRcvO
import Derived.Test.YtpjmgdoekeknjaaHTail
import Derived.Test.YtpjmgdoekeknjaaCut
namespace Go.Proofs.Ytpjmgdoekeknjaa
open Go.RowKit

/-- What the closure sees: its four variables, the receiver, what was got, the messages. -/
structure PutIn (B w : World) (gg gr gs gm p : Nat) (start : Int) (Am : Option Addr) (cm : Nat) (M : List ByteArray) (F : Nat → Prop) (st : Rv.S) (A : Option Addr) (c : Nat) (G : List ByteArray) : Prop where
  own : OwnRecv B w p F st
  bg : Blk w gg 30 [.slice A G.length c]
  br : Blk w gr 24 [.pointer (some ⟨p, 0, none⟩)]
  bs : Blk w gs 3 [.int .i64 start]
  bm : Blk w gm 30 [.slice Am M.length cm]
  msgs : Rd strE w Am cm M
  got : Sl strE w A c G
  low : ∀ ad, Am = some ad → 0 < M.length → ad.block < B.heap.size
  base : ∀ ad, A = some ad → B.heap.size ≤ ad.block ∧ ¬ F ad.block
  lows : B.heap.size ≤ gg ∧ B.heap.size ≤ gr ∧ B.heap.size ≤ gs ∧ B.heap.size ≤ gm
  out : ¬ F gg ∧ ¬ F gr ∧ ¬ F gs ∧ ¬ F gm
  gne : gm ≠ gg ∧ gr ≠ gg ∧ gs ≠ gg

section
variable {B w w' : World} {gg gr gs gm p c cm : Nat} {start : Int} {Am A : Option Addr} {M G : List ByteArray} {F : Nat → Prop} {st : Rv.S}
theorem OwnRecv.touch {T : Nat → Prop} (h : OwnRecv B w p F st) (ht : Touch T w w') (hT : ∀ x, F x → ¬ T x) (hB : ∀ x, T x → B.heap.size ≤ x) : OwnRecv B w' p F st :=
  ⟨h.at_.touch ht hT, h.fresh.trans ht (fun k hk e => by have := hB k e; omega), h.base⟩
theorem PutIn.A_ne (h : PutIn B w gg gr gs gm p start Am cm M F st A c G) : ∀ ad, A = some ad → ad.block ≠ gg ∧ ad.block ≠ gr ∧ ad.block ≠ gs ∧ ad.block ≠ gm := fun ad e =>
  ⟨h.got.blk_ne h.bg (by decide) ad e, h.got.blk_ne h.br (by decide) ad e, h.got.blk_ne h.bs (by decide) ad e, h.got.blk_ne h.bm (by decide) ad e⟩
theorem PutIn.old (h : PutIn B w gg gr gs gm p start Am cm M F st A c G) (ht : Fresh w w') : PutIn B w' gg gr gs gm p start Am cm M F st A c G :=
  ⟨h.own.old ht, ht.blk h.bg (fun h => h), ht.blk h.br (fun h => h), ht.blk h.bs (fun h => h), ht.blk h.bm (fun h => h), h.msgs.touch ht (fun _ _ _ h => h), h.got.touch ht (fun _ _ h => h), h.low, h.base, h.lows, h.out, h.gne⟩
/-- The cells that the closure reads stay while the receiver and what was got are written. -/
theorem PutIn.keep (h : PutIn B w gg gr gs gm p start Am cm M F st A c G) (ht : Touch (fun x => F x ∨ A.map Addr.block = some x) w w') :
    Blk w' gg 30 [.slice A G.length c] ∧ Blk w' gr 24 [.pointer (some ⟨p, 0, none⟩)] ∧ Blk w' gs 3 [.int .i64 start] ∧ Blk w' gm 30 [.slice Am M.length cm] ∧ Rd strE w' Am cm M := by
  have hn : ∀ g, ¬ F g → (∀ ad, A = some ad → ad.block ≠ g) → ¬ (F g ∨ A.map Addr.block = some g) := fun g hf ha hh => by
    rcases hh with e | e
    · exact hf e
    · cases A with
      | none => cases e
      | some ad => injection e with e; exact ha ad rfl e
  refine ⟨ht.blk h.bg (hn _ h.out.1 fun ad e => (h.A_ne ad e).1), ht.blk h.br (hn _ h.out.2.1 fun ad e => (h.A_ne ad e).2.1), ht.blk h.bs (hn _ h.out.2.2.1 fun ad e => (h.A_ne ad e).2.2.1), ht.blk h.bm (hn _ h.out.2.2.2 fun ad e => (h.A_ne ad e).2.2.2), ?_⟩
  refine h.msgs.touch ht fun ad e k hh => ?_
  have h1 := h.low ad e k
  rcases hh with e' | e'
  · have := h.own.base _ e'; omega
  · cases A with
    | none => cases e'
    | some ad' => injection e' with e'; have := (h.base ad' rfl).1; omega
end

set_option maxHeartbeats 4000000 in
set_option maxRecDepth 4000 in
theorem put_any {B w : World} {gg gr gs gm p c cm : Nat} {start : Int} {Am A : Option Addr} {M G L : List ByteArray} {F : Nat → Prop} {st st' : Rv.S} (h : PutIn B w gg gr gs gm p start Am cm M F st A c G)
    (i : Nat) (hi : i < M.length) (hM : ∀ s ∈ M, s.size ≤ maxLen) (hb : st.inbox.length + st.m.length + st.gaps.length ≤ 100000) (hG : G.length + L.length ≤ 100000) (he : Rv.data st ((start + (i : Int)) % 16777216) (cut5 (M.getD i ByteArray.empty)) = (st', L)) :
    Calls Try.prog 18 #[.int .i64 i, .pointer (some ⟨gg, 0, none⟩), .pointer (some ⟨gr, 0, none⟩), .pointer (some ⟨gs, 0, none⟩), .pointer (some ⟨gm, 0, none⟩)] w fun e w' =>
      ∃ F' A' c' G', e = .returned (.tuple #[]) ∧ Hid (G' = G ++ L) ∧ PutIn B w' gg gr gs gm p start Am cm M F' st' A' c' G' := by
  obtain ⟨gM, oM, rfl, _, hcell⟩ := h.msgs.str_at i hi
  obtain ⟨v, hv⟩ : ∃ v, v = M.getD i ByteArray.empty := ⟨_, rfl⟩
  have hvs : v.size ≤ maxLen := by rw [hv, List.getD_eq_getElem?_getD, List.getElem?_eq_getElem hi]; exact hM _ (List.getElem_mem hi)
  rw [← hv] at he hcell
  have HP := Lib.hid h
  have hi0 : (0 : Int) ≤ (i : Int) := by omega
  have hi1 : (i : Int) < (M.length : Int) := by omega
  have KE : Hid (∀ wx, Touch (fun x => F x ∨ A.map Addr.block = some x) w wx → wx.cell? ⟨gg, 0, none⟩ = some (.slice A G.length c) ∧ wx.cell? ⟨gr, 0, none⟩ = some (.pointer (some ⟨p, 0, none⟩)) ∧ wx.cell? ⟨gs, 0, none⟩ = some (.int .i64 start) ∧ wx.cell? ⟨gm, 0, none⟩ = some (.slice (some ⟨gM, oM, none⟩) M.length cm) ∧ wx.cell? ⟨gM, oM + i, none⟩ = some (.string v)) := fun wx ht => by
    obtain ⟨k1, k2, k3, k4, k5⟩ := HP.out.keep ht
    obtain ⟨_, _, e7, _, hc2⟩ := k5.str_at i hi
    have e8 := Option.some.inj e7
    injection e8 with e8 e9 _
    subst e8 e9
    exact ⟨k1.cell 0, k2.cell 0, k3.cell 0, k4.cell 0, by rw [hv]; exact hc2⟩
  have HD := Lib.hid (fun wx (ho : OwnRecv B wx p F st) => odataR ((start + (i : Int)) % 16777216) (cut5 v) ho hb he)
  clear h hcell hv hM he
  go_enter Try.func18, Try.ntmps18
  go_wp2_with fail
  refine wp_region_htail (S := fun wx => wx.cell? ⟨gg, 0, none⟩ = some (.slice A G.length c) ∧ wx.cell? ⟨gr, 0, none⟩ = some (.pointer (some ⟨p, 0, none⟩)) ∧ wx.cell? ⟨gs, 0, none⟩ = some (.int .i64 start) ∧ wx.cell? ⟨gm, 0, none⟩ = some (.slice (some ⟨gM, oM, none⟩) M.length cm) ∧ wx.cell? ⟨gM, oM + i, none⟩ = some (.string v)) 13 (by kernel_rfl) rfl (by kernel_rfl) (by kernel_rfl) (KE.out _ (Touch.refl _ _).drew) (fun Q0 hQ hP hSw => ?_)
  simp only [List.take_succ_cons, List.take_zero, List.drop_succ_cons, List.drop_zero, List.map_cons, List.map_nil, List.cons_append, List.nil_append, blankOp]
  refine wpAnyH_take (i := 0) (v := .slice A G.length c) rfl (by kernel_rfl) (by kernel_rfl) (by kernel_rfl) (hP _ _) (Or.inl ⟨by rfl, fun wx hwx => by obtain ⟨y1, y2, y3, y4, y5⟩ := hwx; go_simp⟩) hSw ?_
  try simp only [Act.put, List.setIfInBounds_toArray, List.set_cons_zero, List.set_cons_succ]
  refine wpAnyH_take (i := 1) (v := .pointer (some ⟨p, 0, none⟩)) rfl (by kernel_rfl) (by kernel_rfl) (by kernel_rfl) (hP _ _) (Or.inl ⟨by rfl, fun wx hwx => by obtain ⟨y1, y2, y3, y4, y5⟩ := hwx; go_simp⟩) hSw ?_
  try simp only [Act.put, List.setIfInBounds_toArray, List.set_cons_zero, List.set_cons_succ]
  refine wpAnyH_take (i := 2) (v := .int .i64 start) rfl (by kernel_rfl) (by kernel_rfl) (by kernel_rfl) (hP _ _) (Or.inl ⟨by rfl, fun wx hwx => by obtain ⟨y1, y2, y3, y4, y5⟩ := hwx; go_simp⟩) hSw ?_
  try simp only [Act.put, List.setIfInBounds_toArray, List.set_cons_zero, List.set_cons_succ]
  refine wpAnyH_take (i := 4) (v := .int .i64 i) rfl (by kernel_rfl) (by kernel_rfl) (by kernel_rfl) (hP _ _) (Or.inl ⟨by rfl, fun wx hwx => by obtain ⟨y1, y2, y3, y4, y5⟩ := hwx; go_simp⟩) hSw ?_
  try simp only [Act.put, List.setIfInBounds_toArray, List.set_cons_zero, List.set_cons_succ]
  refine wpAnyH_take (i := 6) (v := .slice (some ⟨gM, oM, none⟩) M.length cm) rfl (by kernel_rfl) (by kernel_rfl) (by kernel_rfl) (hP _ _) (Or.inl ⟨by rfl, fun wx hwx => by obtain ⟨y1, y2, y3, y4, y5⟩ := hwx; go_simp⟩) hSw ?_
  try simp only [Act.put, List.setIfInBounds_toArray, List.set_cons_zero, List.set_cons_succ]
  refine wpAnyH_take (i := 7) (v := .int .i64 i) rfl (by kernel_rfl) (by kernel_rfl) (by kernel_rfl) (hP _ _) (Or.inl ⟨by rfl, fun wx hwx => by obtain ⟨y1, y2, y3, y4, y5⟩ := hwx; go_simp⟩) hSw ?_
  try simp only [Act.put, List.setIfInBounds_toArray, List.set_cons_zero, List.set_cons_succ]
  refine wpAnyH_take (i := 8) (v := .pointer (some ⟨gM, oM + i, none⟩)) rfl (by kernel_rfl) (by kernel_rfl) (by kernel_rfl) (hP _ _) (Or.inl ⟨by rfl, fun wx hwx => by obtain ⟨y1, y2, y3, y4, y5⟩ := hwx; go_simp⟩) hSw ?_
  try simp only [Act.put, List.setIfInBounds_toArray, List.set_cons_zero, List.set_cons_succ]
  refine wpAnyH_take (i := 9) (v := .string v) rfl (by kernel_rfl) (by kernel_rfl) (by kernel_rfl) (hP _ _) (Or.inl ⟨by rfl, fun wx hwx => by obtain ⟨y1, y2, y3, y4, y5⟩ := hwx; go_simp⟩) hSw ?_
  try simp only [Act.put, List.setIfInBounds_toArray, List.set_cons_zero, List.set_cons_succ]
  refine wpAnyH_ready (rs := [3]) (by kernel_rfl) (by simp) ?_
  refine AllReadyH.cons rfl (fun K hK => ?_) AllReadyH.nil
  go_simp
  refine (sof_any start w.drew).mono ?_
  rintro e w' ⟨rfl, rfl⟩
  try simp only
  refine hK.out _ _ hSw (fun hSw => ?_)
  clear hK K
  try simp only [Act.put, List.setIfInBounds_toArray, List.set_cons_zero, List.set_cons_succ]
  refine wpAnyH_ready (rs := [5]) (by kernel_rfl) (by simp) ?_
  refine AllReadyH.cons rfl (fun K hK => ?_) AllReadyH.nil
  go_simp
  refine (sadd_any (start % 16777216) i w.drew).mono ?_
  rintro e w' ⟨rfl, rfl⟩
  try simp only
  refine hK.out _ _ hSw (fun hSw => ?_)
  clear hK K
  try simp only [Act.put, List.setIfInBounds_toArray, List.set_cons_zero, List.set_cons_succ]
  refine wpAnyH_ready (rs := [10]) (by kernel_rfl) (by simp) ?_
  refine AllReadyH.cons rfl (fun K hK => ?_) AllReadyH.nil
  go_simp
  refine (cut5_any v w.drew hvs).mono ?_
  rintro e w' ⟨rfl, rfl⟩
  try simp only
  refine hK.out _ _ hSw (fun hSw => ?_)
  clear hK K
  try simp only [Act.put, List.setIfInBounds_toArray, List.set_cons_zero, List.set_cons_succ]
  refine wpAnyH_ready (rs := [11]) (by kernel_rfl) (by simp) ?_
  refine AllReadyH.cons rfl (fun K hK => ?_) AllReadyH.nil
  go_simp
  refine (HD.out w.drew (HP.out.own.old (Touch.refl _ _).drew)).mono ?_
  rintro e w1 ⟨F1, A1, c1, rfl, s1, o1, t1, f1, a1⟩
  try simp only
  refine hK.out _ _ (KE.out _ ((Touch.refl _ _).drew.trans t1 (fun _ _ h => Or.inl h))) (fun hSw => ?_)
  clear hK K
  try simp only [Act.put, List.setIfInBounds_toArray, List.set_cons_zero, List.set_cons_succ]
  have GOT : Hid (Sl strE w1 A c G) := HP.out.got.drew.touch t1 (fun ad e hf => (HP.out.base ad e).2 hf)
  refine wpAnyH_ready (rs := [12]) (by kernel_rfl) (by simp) ?_
  refine AllReadyH.cons rfl (fun K hK => ?_) AllReadyH.nil
  refine stp_str rfl rfl (l := G) (l2 := L) rfl rfl GOT.out s1.rd (by omega) ?_
  intro A2 c2 G2 w2 hG2 hs2 ht2 hA2
  have T2 : Hid (Touch (fun x => F x ∨ A.map Addr.block = some x) w w2) := ((Touch.refl _ _).drew.trans t1 (fun _ _ h => Or.inl h)).trans ht2 (fun _ _ h => Or.inr h)
  refine hK.out _ _ (KE.out _ T2.out) (fun hSw => ?_)
  clear hK K
  try simp only [Act.put, List.setIfInBounds_toArray, List.set_cons_zero, List.set_cons_succ]
  refine wpAnyH_take (i := 13) (v := undef) rfl (by kernel_rfl) (by kernel_rfl) (by kernel_rfl) (hP _ _) (Or.inl ⟨by rfl, fun wx hwx => by go_simp⟩) hSw ?_
  try simp only [Act.put, List.setIfInBounds_toArray, List.set_cons_zero, List.set_cons_succ]
  refine wpAnyH_done (by kernel_rfl) ?_ _
  refine hQ.out _ _ ?_
  simp only [List.drop_succ_cons, List.drop_zero]
  obtain ⟨k1, k2, k3, k4, k5⟩ := HP.out.keep T2.out
  have hfr : w2.frozen? ⟨gg, 0, none⟩ = false := k1.frozen 0
  clear hP hQ
  go_wp2
  go_end0
  obtain ⟨q1, q2, q3, q4⟩ := HP.out.out
  obtain ⟨l1, l2, l3, l4⟩ := HP.out.lows
  have hlt : gg < w.heap.size ∧ gr < w.heap.size ∧ gs < w.heap.size ∧ gm < w.heap.size := ⟨HP.out.bg.lt, HP.out.br.lt, HP.out.bs.lt, HP.out.bm.lt⟩
  have hnf : ∀ x, x < w.heap.size → ¬ F x → ¬ F1 x := fun x hx hf hf1 => by
    rcases f1 x hf1 with e | e
    · exact hf e
    · have e : w.heap.size ≤ x := e
      omega
  have T3 : Touch (fun x => A.map Addr.block = some x ∨ x = gg) w1 (w2.setCell ⟨gg, 0, none⟩ (.slice A2 G2.length c2)) := Touch.st (ht2.mono (fun _ _ e => Or.inl e)) (Or.inr rfl)
  have hAF : ∀ ad, A = some ad → ¬ F1 ad.block := fun ad e => hnf _ (HP.out.got.lt ad e) (HP.out.base ad e).2
  have o3 : OwnRecv B (w2.setCell ⟨gg, 0, none⟩ (.slice A2 G2.length c2)) p F1 st' := o1.touch T3 (fun x hx e => by
    rcases e with e | rfl
    · cases A with
      | none => cases e
      | some ad => injection e with e; exact hAF ad rfl (e ▸ hx)
    · exact hnf _ hlt.1 q1 hx) (fun x e => by
    rcases e with e | rfl
    · cases A with
      | none => cases e
      | some ad => injection e with e; exact e ▸ (HP.out.base ad rfl).1
    · exact l1)
  have hA2F : ∀ ad, A2 = some ad → B.heap.size ≤ ad.block ∧ ¬ F1 ad.block ∧ ad.block ≠ gg := fun ad e => by
    subst e
    rcases hA2 with e | e
    · cases A with
      | none => cases e
      | some ad' =>
        injection e with e
        have e : ad.block = ad'.block := e
        rw [e]
        exact ⟨(HP.out.base ad' rfl).1, hAF ad' rfl, (HP.out.A_ne ad' rfl).1⟩
    · injection e with e
      have e : ad.block = w1.heap.size := e
      have h1 := t1.size
      have h1 : w.heap.size ≤ w1.heap.size := h1
      rw [e]
      refine ⟨by omega, fun hf => ?_, by omega⟩
      have := o1.at_.lim _ hf
      omega
  refine ⟨F1, A2, c2, G2, rfl, hG2, ⟨o3, k1.set 0 _, k2.far HP.out.gne.2.1 _, k3.far HP.out.gne.2.2 _, k4.far HP.out.gne.1 _, ?_, hs2.setCell (p := ⟨gg, 0, none⟩) (fun ad e => (hA2F ad e).2.2) _, HP.out.low, fun ad e => ⟨(hA2F ad e).1, (hA2F ad e).2.1⟩, HP.out.lows, ⟨hnf _ hlt.1 q1, hnf _ hlt.2.1 q2, hnf _ hlt.2.2.1 q3, hnf _ hlt.2.2.2 q4⟩, HP.out.gne⟩⟩
  refine k5.touch (Touch.set1 _ _ _ _) fun ad e hk hh => ?_
  have := HP.out.low ad e hk
  omega
end Go.Proofs.Ytpjmgdoekeknjaa
