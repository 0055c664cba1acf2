/- The texts Wp, Ch in one file. -/
import Derived.Test.YtfongpdeflfioaaGreatS13
import Derived.Test.YtfongpdeflfioaaGreatS14
import Derived.Test.YtfongpdeflfioaaGreatS2
/- store's writer.put. -/
namespace Go.Proofs.YtfongpdeflfioaaGreat
open Go.RowKit Go.Maps Go.Sort Go.Shelf
set_option linter.unusedVariables false
set_option linter.unusedSimpArgs false
theorem no_more {m : Nat → Bool} {listed : Array Bool} (hl : ((List.range listed.size).all fun k => !m k || listed.getD k true) = true) : ¬ MoreM m listed := fun ⟨k, hk, hm⟩ => by
  have hlt : k < listed.size := by
    rcases Nat.lt_or_ge k listed.size with h' | h'
    · exact h'
    · simp [h'] at hm
  have := List.all_eq_true.1 hl k (List.mem_range.2 hlt)
  rw [hm, hk] at this
  cases this
theorem infoAct : (Tryz.prog.info? 106).map (fun i => (i.zero, i.size, i.bytes)) = some (some (.agg #[.bool false, .int .i64 0, .slice none 0 0]), 3, 40) := by kernel_rfl
abbrev wits (wb : Nat) (fA : Option Addr) (fn fc : Nat) (aA : Option Addr) (ac : Nat) (acts : List Ac) (S : Nat → Prop) (L : RdL) (its : List It) : List It :=
  .box wb [.slice fA fn fc, .slice aA acts.length ac] :: .row 106 3 (.slice aA acts.length ac) acts.length (acts.flatMap Ac.cells) :: It.bag S L :: its
def putA (ys : List Int) (ps : List Oct) : List Ac := List.zipWith (fun y o => (⟨false, y, o⟩ : Ac)) ys ps
theorem putA_take (ys : List Int) (ps : List Oct) (k : Nat) (h1 : k < ys.length) (h2 : k < ps.length) : putA (ys.take (k + 1)) (ps.take (k + 1)) = putA (ys.take k) (ps.take k) ++ [⟨false, ys[k], ps[k]⟩] := by
  rw [List.take_succ_eq_append_getElem h1, List.take_succ_eq_append_getElem h2, putA, putA, List.zipWith_append (by simp; omega)]
  rfl
theorem putA_len (ys : List Int) (ps : List Oct) : (putA ys ps).length = min ys.length ps.length := by simp [putA]
structure PutOk (w0 : World) (wb : Nat) (fs : List Int) (acts : List Ac) (L : RdL) (its : List It) (k : Nat) (pg : List (List UInt8)) (w' : World) (A : Option Addr) (c : Nat) (fA' : Option Addr) (fc' : Nat) (aA' : Option Addr) (ac' : Nat) (S' : Nat → Prop) (L' : RdL) (pgs : List Oct) : Prop where
  le : k ≤ c
  cap : c ≤ maxLen
  pages : pgs.map (·.xs) = pg
  inb : ∀ o ∈ pgs, InBag L' o
  ats : (A, ints (fs.take k)) ∈ L'
  free : (fA', ints (fs.drop k)) ∈ L'
  fle : fs.length - k ≤ fc'
  more : ∀ q ∈ L, q ∈ L'
  heap : Heap w0 (wits wb fA' (fs.length - k) fc' aA' ac' (acts ++ putA (fs.take k) pgs) S' L' its) w'
set_option maxRecDepth 100000 in
set_option maxHeartbeats 8000000 in
theorem wput_ok {w0 w : World} {its : List It} (wb : Nat) (fA : Option Addr) (fn fc : Nat) (aA : Option Addr) (ac : Nat) (acts : List Ac) (S : Nat → Prop) (L : RdL) (fs : List Int) (H : Heap w0 (wits wb fA fn fc aA ac acts S L its) w)
    (hf : (fA, ints fs) ∈ L) (hn : fn = fs.length) (hc : fn ≤ fc) (hN : fn ≤ 100000000) (ha : acts.length ≤ 1000000)
    (bA : Option Addr) (n c : Nat) (b : List UInt8) (hb : n = b.length) (hr : Rd w0 0 w0.heap.size bA (bytes b)) (hbc : n ≤ c) (hbn : n ≤ 65536) (hm : cntP n ≤ fn) :
    Calls Tryz.prog 55 #[.pointer (some ⟨wb, 0, none⟩), .slice bA n c] w fun e w' => ∃ A c' fA' fc' aA' ac' S' L' pgs, e = .returned (.slice A (cntP n) c') ∧ PutOk w0 wb fs acts L its (cntP n) (cutB b) w' A c' fA' fc' aA' ac' S' L' pgs := by
  obtain ⟨i0, hi0, hz0, hz1, hz2⟩ := info_parts infoAct
  have HH := Lib.hid H
  have HF := Lib.hid hf
  have Hn := Lib.hid hn
  have Hb := Lib.hid hb
  have HR := Lib.hid hr
  clear H hf hn hb hr
  have hcp : cntP n ≤ 1261 := by unfold cntP; omega
  go_enter Tryz.func55, Tryz.ntmps55
  go_wp2_with fail
  refine (pcut_any w bA n c b Hb.out (HH.out.old HR.out) hbc (by omega)).mono ?_
  rintro e w1 ⟨⟨sA, sn, sc, os⟩, rfl, hcut, hs, e1⟩
  have hsl : sn = cntP n := by
    have h1 := congrArg List.length hcut
    have h2 := hs.len
    dsimp only at h1 h2
    rw [List.length_map, cutB, List.length_map, List.length_range, ← Hb.out] at h1
    rw [h2, h1]
  subst hsl
  obtain ⟨S1, H1⟩ := HH.out.bagExt (j := 2) rfl e1 (L2 := (sA, os.map Sl.val) :: os.map fun o => (o.A, bytes o.xs)) (fun q hq => by
    rcases List.mem_cons.1 hq with rfl | hq
    · have := hs.rd; rwa [vals_flat] at this
    · obtain ⟨o, ho, rfl⟩ := List.mem_map.1 hq
      exact (hs.all o ho).rdb)
  have HOb := Lib.hid (fun o (ho : o ∈ os) => show InBag (((sA, os.map Sl.val) :: os.map fun o => (o.A, bytes o.xs)) ++ L) o from
    ⟨(hs.all o ho).len, (hs.all o ho).le, (hs.all o ho).cap, List.mem_append_left _ (List.mem_cons_of_mem _ (List.mem_map_of_mem (f := fun o : Oct => (o.A, bytes o.xs)) ho))⟩)
  have HOl := Lib.hid (show os.length = cntP n from hs.len.symm)
  have HCut := Lib.hid hcut
  generalize hL1 : ((sA, os.map Sl.val) :: os.map fun o => (o.A, bytes o.xs)) ++ L = L1 at *
  have HL1 := Lib.hid (show (sA, os.map Sl.val) ∈ L1 ∧ ∀ q ∈ L, q ∈ L1 by rw [← hL1]; exact ⟨List.mem_append_left _ (List.mem_cons_self ..), fun q hq => List.mem_append_right _ hq⟩)
  have HH1 := Lib.hid (show Heap w0 (wits wb fA fn fc aA ac acts S1 L1 its) w1 from H1)
  clear HH hcut hs H1 hL1 e1
  simp only [Sl.val]
  go_wp2_with fail
  refine (take_ok HH1.out wb fA fn fc _ 0 2 (cntP n) (by decide) rfl S1 L1 rfl fs (HL1.out.2 _ HF.out) Hn.out hc hm hN).mono ?_
  rintro e w2 ⟨A2, c2, fA2, S2, rfl, k1, k2, h2⟩
  obtain ⟨L2, hL2⟩ : ∃ L2, L2 = (fA2, ints (fs.drop (cntP n))) :: (A2, ints (fs.take (cntP n))) :: L1 := ⟨_, rfl⟩
  have HM := Lib.hid (show (fA2, ints (fs.drop (cntP n))) ∈ L2 ∧ (A2, ints (fs.take (cntP n))) ∈ L2 ∧ ∀ q ∈ L1, q ∈ L2 by rw [hL2]; exact ⟨List.mem_cons_self .., List.mem_cons_of_mem _ (List.mem_cons_self ..), fun q hq => List.mem_cons_of_mem _ (List.mem_cons_of_mem _ hq)⟩)
  have HH2 := Lib.hid (show Heap w0 (wits wb fA2 (fn - cntP n) (fc - cntP n) aA ac acts S2 L2 its) w2 by rw [hL2]; exact h2)
  clear hL2 h2 HH1
  go_wp2_with fail
  have HT := Lib.hid (show (fs.take (cntP n)).length = cntP n by rw [List.length_take, ← Hn.out]; omega)
  have HYw := Lib.hid (show True from trivial)
  go_loopw [17] (fun v wr => ∃ (k : Nat) (aA' : Option Addr) (ac' : Nat), k ≤ cntP n ∧ v = .int .i64 (k : Int) ∧ Hid (Heap w0 (wits wb fA2 (fn - cntP n) (fc - cntP n) aA' ac' (acts ++ putA ((fs.take (cntP n)).take k) (os.take k)) S2 L2 its) wr)) (fun v _ => cntP n - (intOf v).toNat)
  case atStart => exact ⟨0, aA, ac, Nat.zero_le _, rfl, by rw [List.take_zero, List.take_zero, show putA [] [] = [] from rfl, List.append_nil]; exact HH2⟩
  case round =>
    clear HH2
    obtain ⟨k, aA', ac', hk, rfl, HH⟩ := hrel
    by_cases hlt : k < cntP n
    · have l1 : k < (fs.take (cntP n)).length := by rw [HT.out]; exact hlt
      have l2 : k < os.length := by rw [HOl.out]; exact hlt
      obtain ⟨gb, go, rfl, hgb, f0⟩ := rd_int2 (HH.out.bagRd (j := 2) rfl HM.out.2.1) l1
      obtain ⟨sb, so, rfl, _, hsb, G⟩ := rd_flat (cells := octv) (size := 1) (fun _ => rfl) (by omega) (xs := os) (by rw [vals_flat]; exact HH.out.bagRd (j := 2) rfl (HM.out.2.2 _ HL1.out.1)) l2
      have g0 := G 0 _ rfl
      simp only [Nat.mul_one, Nat.add_zero] at g0
      have HA1 := Lib.hid (show acts ++ putA ((fs.take (cntP n)).take (k + 1)) (os.take (k + 1)) = (acts ++ putA ((fs.take (cntP n)).take k) (os.take k)) ++ [⟨false, (fs.take (cntP n))[k], os[k]⟩] by rw [putA_take _ _ k l1 l2, List.append_assoc])
      have hal : (acts ++ putA ((fs.take (cntP n)).take k) (os.take k)).length ≤ 2000000 := by
        rw [List.length_append, putA_len, List.length_take]; omega
      clear G
      generalize acts ++ putA ((fs.take (cntP n)).take k) (os.take k) = ak at *
      generalize (fs.take (cntP n))[k] = y at *
      generalize os[k] = o at *
      obtain ⟨oA, om, oc, ox⟩ := o
      simp only [Sl.val] at g0
      have c1 := (HH.out.boxAt 0 rfl).cell 1 _ rfl
      have hlt0 := (HH.out.boxAt 0 rfl).lt
      go_upto_region 6 with fail
      have HHd := Lib.hid HH.out.drew
      clear HH
      have HF := Lib.hid (fun W (e : Ext wr.drew W) => show W.cell? ⟨wb, 1, none⟩ = some (.slice aA' ak.length ac') ∧ W.cell? ⟨gb, go + k, none⟩ = some (.int .i64 y) from ⟨(Below.cell (p := ⟨wb, 1, none⟩) e hlt0).trans c1, (Below.cell (p := ⟨gb, go + k, none⟩) e hgb).trans f0⟩)
      clear c1 f0 g0 hlt0
      refine rgnM (fun k => Nat.blt 0 k && Nat.blt k 13) (S := fun W => W.cell? ⟨wb, 1, none⟩ = some (.slice aA' ak.length ac') ∧ W.cell? ⟨gb, go + k, none⟩ = some (.int .i64 y)) (by kernel_rfl) (HF.out _ (Ext.refl _)) (fun hHeld => ?_)
      generalize World.drew wr = wd at *
      refine pureM 0 (v := ?_) rfl (by kernel_rfl) (by kernel_rfl) (by kernel_rfl) (by kernel_rfl) (fun _ _ _ h => h) (by kernel_rfl) ?_ (fun _ => by assumption) ?_; rotate_left; (focus (intro w; go_simp <;> with_reducible rfl)); (try simp only [Act.put, lyA, lyB, lyC])
      refine mS 1 ?_; (try simp only [Act.put, lyA, lyB, lyC])
      refine mS 2 ?_; (try simp only [Act.put, lyA, lyB, lyC])
      refine mS 3 ?_; (try simp only [Act.put, lyA, lyB, lyC])
      refine mS 4 ?_; (try simp only [Act.put, lyA, lyB, lyC])
      refine mS 5 ?_; (try simp only [Act.put, lyA, lyB, lyC])
      refine mS 6 ?_; (try simp only [Act.put, lyA, lyB, lyC])
      refine mS 7 ?_; (try simp only [Act.put, lyA, lyB, lyC])
      refine mS 8 ?_; (try simp only [Act.put, lyA, lyB, lyC])
      refine mS 9 ?_; (try simp only [Act.put, lyA, lyB, lyC])
      refine mS 10 ?_; (try simp only [Act.put, lyA, lyB, lyC])
      clear hHeld
      refine oneM 11 rfl (by kernel_rfl) (by kernel_rfl) (fun K hK => ?_)
      go_simp
      generalize hwA : World.alloc _ _ = w6
      have HH6 := Lib.hid (HHd.out.allocE hwA)
      have e6 : Ext wd w6 := by rw [← hwA]; exact (Ext.refl _).alloc _
      clear hwA HHd
      refine hK.out _ _ (HF.out _ e6) (fun hHeld => ?_)
      clear hK K hHeld e6
      (try simp only [Act.put, lyA, lyB, lyC])
      refine freeM 12 rfl (by kernel_rfl) (by kernel_rfl) (by kernel_rfl) (fun K hK => ?_)
      refine sh_app (.tmp 26) (.tmp 33) _ rfl Tryz.underlying50 hi0 hz0 hz1 hz2 rfl (by omega) HH6.out 2 rfl rfl (m := 1) rfl rfl (HH6.out.boxRd 0 rfl) (by simp [Value.oneCell']) (by simp only [maxLen]; omega) (by omega) ?_
      rintro v7 w7 hh7 ⟨A7, c7, rfl⟩
      have HH7 := Lib.hid (show Heap w0 (.box wb [.slice fA2 (fn - cntP n) (fc - cntP n), .slice aA' ak.length ac'] :: .row 106 3 (.slice A7 (ak.length + 1) c7) (ak.length + 1) (ak.flatMap Ac.cells ++ [.bool false, .int .i64 y, .slice oA om oc]) :: It.bag S2 L2 :: its) w7 from hh7.tail)
      clear hh7 HH6
      refine hK.out _ _ ?_
      clear hK K
      (try simp only [Act.put, lyA, lyB, lyC])
      refine pureM 13 (v := ?_) rfl (by kernel_rfl) (by kernel_rfl) (by kernel_rfl) (by kernel_rfl) (fun _ _ _ h => h) (by kernel_rfl) ?_ (fun h => absurd h (no_more (by kernel_rfl))) ?_; rotate_left; (focus (intro w; go_simp <;> with_reducible rfl)); (try simp only [Act.put, lyA, lyB, lyC])
      refine pureM 14 (v := ?_) rfl (by kernel_rfl) (by kernel_rfl) (by kernel_rfl) (by kernel_rfl) (fun _ _ _ h => h) (by kernel_rfl) ?_ (fun h => absurd h (no_more (by kernel_rfl))) ?_; rotate_left; (focus (intro w; go_simp <;> with_reducible rfl)); (try simp only [Act.put, lyA, lyB, lyC])
      refine freeM 15 rfl (by kernel_rfl) (by kernel_rfl) (by kernel_rfl) (fun K hK => ?_)
      refine sh_store1 HH7.out rfl rfl rfl 0 rfl (Nat.le_of_ble_eq_true rfl) rfl (by kernel_rfl) ?_
      intro w8 hh8
      have HH8 := Lib.hid (show Heap w0 (wits wb fA2 (fn - cntP n) (fc - cntP n) A7 c7 (ak ++ [⟨false, y, ⟨oA, om, oc, ox⟩⟩]) S2 L2 its) w8 by
        unfold wits
        rw [List.length_append, List.flatMap_append]
        exact hh8)
      clear hh8 HH7
      refine hK.out _ _ ?_
      clear hK K
      (try simp only [Act.put, lyA, lyB, lyC])
      refine doneM (by kernel_rfl) ?_
      go_wp2_with fail
      go_roundw
      case rel =>
        refine ⟨k + 1, A7, c7, by omega, by go_num, ?_⟩
        rw [HA1.out]
        exact HH8
      case measure => simp [intOf]; omega
    · obtain rfl : k = cntP n := by omega
      rw [List.take_of_length_le (Nat.le_of_eq HT.out), List.take_of_length_le (Nat.le_of_eq HOl.out)] at HH
      go_wp2_with fail
      go_ret
      refine ⟨A2, c2, fA2, fc - cntP n, aA', ac', S2, L2, os, rfl, k1, k2, HCut.out, fun o ho => ?_, HM.out.2.1, HM.out.1, by rw [← Hn.out]; omega, fun q hq => HM.out.2.2 _ (HL1.out.2 _ hq), by rw [← Hn.out]; exact HH.out⟩
      have h1 := HOb.out o ho
      exact ⟨h1.len, h1.le, h1.cap, HM.out.2.2 _ h1.mem⟩
set_option maxRecDepth 100000 in
set_option maxHeartbeats 8000000 in
theorem wput_bad {w0 w : World} {its : List It} (wb : Nat) (fA : Option Addr) (fn fc : Nat) (aA : Option Addr) (ac : Nat) (acts : List Ac) (S : Nat → Prop) (L : RdL) (H : Heap w0 (wits wb fA fn fc aA ac acts S L its) w)
    (bA : Option Addr) (n c : Nat) (b : List UInt8) (hb : n = b.length) (hr : Rd w0 0 w0.heap.size bA (bytes b)) (hbc : n ≤ c) (hbn : n ≤ 65536) (hm : fn < cntP n) :
    Calls Tryz.prog 55 #[.pointer (some ⟨wb, 0, none⟩), .slice bA n c] w fun e w' => e = .panicked [{ v := errV 17, recovered := false }] ∧ Heap w0 (wits wb fA fn fc aA ac acts S L its) w' := by
  have HH := Lib.hid H
  have Hb := Lib.hid hb
  have HR := Lib.hid hr
  clear H hb hr
  have hcp : cntP n ≤ 1261 := by unfold cntP; omega
  go_enter Tryz.func55, Tryz.ntmps55
  go_wp2_with fail
  refine (pcut_any w bA n c b Hb.out (HH.out.old HR.out) hbc (by omega)).mono ?_
  rintro e w1 ⟨⟨sA, sn, sc, os⟩, rfl, hcut, hs, e1⟩
  have hsl : sn = cntP n := by
    have h1 := congrArg List.length hcut
    have h2 := hs.len
    dsimp only at h1 h2
    rw [List.length_map, cutB, List.length_map, List.length_range, ← Hb.out] at h1
    rw [h2, h1]
  subst hsl
  have HH1 := Lib.hid (HH.out.later e1)
  clear HH hcut hs e1
  simp only [Sl.val]
  go_wp2_with fail
  refine (take_bad HH1.out wb fA fn fc _ 0 (cntP n) rfl hm (by omega)).mono ?_
  rintro e w2 ⟨rfl, h2⟩
  exact ⟨rfl, rfl, h2⟩
end Go.Proofs.YtfongpdeflfioaaGreat
/- store's writer.chain. -/
namespace Go.Proofs.YtfongpdeflfioaaGreat
open Go.RowKit Go.Maps Go.Sort Go.Shelf
set_option linter.unusedVariables false
set_option linter.unusedSimpArgs false
attribute [local go_sem] Oper.semAt_some
def onP (PP : List PanicEntry → List Deferred → World → Prop) (Q : Exit → Act → World → Prop) : Exit → Act → World → Prop
  | .normal, a, w => Q .normal a w
  | .panic c, a, w => PP c a.defers w
  | _, _, _ => False
theorem wp_onP {P : Program} {c : Code} {Q : Exit → Act → World → Prop} {a : Act} {w : World} (PP : List PanicEntry → List Deferred → World → Prop) (hp : ∀ c a w, PP c a.defers w → Q (.panic c) a w) (h : c.wp P (onP PP Q) a w) : c.wp P Q a w :=
  Code.wp_mono (fun e a w h => by cases e <;> first | exact h | exact hp _ _ _ h | exact h.elim) h
def noP (Q : Exit → Act → World → Prop) : Exit → Act → World → Prop
  | .normal, a, w => Q .normal a w
  | _, _, _ => False
theorem wp_noP {P : Program} {c : Code} {Q : Exit → Act → World → Prop} {a : Act} {w : World} (h : c.wp P (noP Q) a w) : c.wp P Q a w :=
  Code.wp_mono (fun e a w h => by cases e <;> first | exact h | exact h.elim) h
theorem rdI_at {w : World} {lo hi b o : Nat} {l : List Int} (h : Rd w lo hi (some ⟨b, o, none⟩) (ints l)) {k : Nat} (hk : k < l.length) : w.cell? ⟨b, o + k, none⟩ = some (.int .i64 l[k]) := by
  obtain ⟨b', o', e, _, f⟩ := rd_int2 h hk
  cases e
  exact f
theorem putA_snoc (ys : List Int) (os : List Oct) (o : Oct) (k : Nat) (h1 : k < ys.length) (h2 : os.length = k) : putA (ys.take (k + 1)) (os ++ [o]) = putA (ys.take k) os ++ [⟨false, ys[k], o⟩] := by
  rw [List.take_succ_eq_append_getElem h1, putA, putA, List.zipWith_append (by simp; omega)]
  rfl
def chB (b : List UInt8) (ys : List Int) : List (List UInt8) := (List.range (cntP b.length)).map fun k => pgB (partO b k) (ys.getD (k + 1) 0)
set_option maxRecDepth 100000 in
set_option maxHeartbeats 8000000 in
theorem wchain_ok {w0 w : World} {its : List It} (wb : Nat) (fA : Option Addr) (fn fc : Nat) (aA : Option Addr) (ac : Nat) (acts : List Ac) (S : Nat → Prop) (L : RdL) (fs : List Int) (H : Heap w0 (wits wb fA fn fc aA ac acts S L its) w)
    (hf : (fA, ints fs) ∈ L) (hn : fn = fs.length) (hc : fn ≤ fc) (hN : fn ≤ 100000000) (ha : acts.length ≤ 1000000) (hfs : ∀ y ∈ fs, 0 ≤ y ∧ y < 8192)
    (bA : Option Addr) (n c : Nat) (b : List UInt8) (hb : n = b.length) (hr : Rd w0 0 w0.heap.size bA (bytes b) ∨ (bA, bytes b) ∈ L) (hbc : n ≤ c) (hbn : n ≤ 65536) (hm : cntP n ≤ fn) :
    Calls Tryz.prog 57 #[.pointer (some ⟨wb, 0, none⟩), .slice bA n c] w fun e w' => ∃ A c' fA' fc' aA' ac' S' L' pgs, e = .returned (.slice A (cntP n) c') ∧ PutOk w0 wb fs acts L its (cntP n) (chB b (fs.take (cntP n))) w' A c' fA' fc' aA' ac' S' L' pgs := by
  obtain ⟨i0, hi0, hz0, hz1, hz2⟩ := info_parts infoAct
  have HH := Lib.hid H
  have HF := Lib.hid hf
  have Hn := Lib.hid hn
  have Hb := Lib.hid hb
  have HR := Lib.hid hr
  have HFS := Lib.hid hfs
  clear H hf hn hb hr hfs
  have hcp : cntP n ≤ 1261 := by unfold cntP; omega
  refine (callsIn_wide (n := 1)).1 (callsIn_of_wp_marks Tryz.func57 rfl trivial ?_ rfl)
  simp only [Tryz.ntmps57, List.size_toArray, List.length_cons, List.length_nil, Nat.reduceAdd, Nat.reduceSub, Array.replicate_succ, Array.replicate_zero, List.push_toArray, List.append_toArray, List.nil_append, List.cons_append]
  refine wpIn_wide.2 ?_
  go_upto_region 1 with fail
  generalize hwH : World.alloc w _ = w1
  have HH1 := Lib.hid (HH.out.allocE hwH)
  clear hwH HH
  obtain ⟨b2, hb2⟩ : ∃ b, b = w.heap.size := ⟨_, rfl⟩
  rw [← hb2] at HH1 ⊢
  clear hb2
  have HHd := Lib.hid HH1.out.drew
  clear HH1
  go_cut [5] from 11 to 15 (fun s wx => ∃ tb A2 c2 fA2 S2 L2, s = .pointer (some ⟨tb, 0, none⟩) ∧ cntP n ≤ c2 ∧ c2 ≤ maxLen ∧ Hid (L2 = (fA2, ints (fs.drop (cntP n))) :: (A2, ints (fs.take (cntP n))) :: L) ∧ Hid (Heap w0 (.box tb [.slice A2 (cntP n) c2] :: .box b2 [.pointer (some ⟨wb, 0, none⟩)] :: wits wb fA2 (fn - cntP n) (fc - cntP n) aA ac acts S2 L2 its) wx))
  case first =>
    refine wp_noP ?_
    refine wp_region_held_drew (S := Heap w0 [.box b2 [.pointer (some ⟨wb, 0, none⟩)]]) (by kernel_rfl) (HHd.out.only 0 rfl) (fun hHeld => ?_)
    generalize World.drew w1 = wd at *
    refine tG 0 rfl (fun wT hST => sh_run_load1 hST rfl rfl 0 rfl rfl (by kernel_rfl)) hHeld ?_; (try simp only [Act.put, lyA, lyB, lyC])
    refine tS 1 ?_; (try simp only [Act.put, lyA, lyB, lyC])
    refine tS 2 ?_; (try simp only [Act.put, lyA, lyB, lyC])
    clear hHeld
    refine twoH 3 5 rfl rfl (by kernel_rfl) (by kernel_rfl) (by kernel_rfl) (fun K hK => ?_) (fun K hK => ?_)
    · go_simp
      refine (count_any wd n (by omega)).mono ?_
      rintro e w2 ⟨rfl, e2⟩
      have HH2 := Lib.hid (HHd.out.later e2)
      clear HHd e2
      go_wp2_with fail
      refine hK.out _ _ ((HH2).out.only 0 rfl) (fun hHeld => ?_); clear hK K; (try simp only [Act.put, lyA, lyB, lyC]); clear hHeld
      refine twoH 4 5 rfl rfl (by kernel_rfl) (by kernel_rfl) (by kernel_rfl) (fun K hK => ?_) (fun K hK => ?_)
      · go_simp
        refine (take_ok HH2.out wb fA fn fc _ 1 3 (cntP n) (by decide) rfl S L rfl fs HF.out Hn.out hc hm hN).mono ?_
        rintro e w4 ⟨A2, c2, fA2, S2, rfl, k1, k2, h2⟩
        have HH4 := Lib.hid h2
        clear HH2 h2
        go_wp2_with fail
        refine hK.out _ _ ((HH4).out.only 0 rfl) (fun hHeld => ?_); clear hK K; (try simp only [Act.put, lyA, lyB, lyC]); clear hHeld
        refine oS 5 (fun K hK => ?_)
        go_simp
        generalize hwA : World.alloc _ _ = w5
        have HH5 := Lib.hid (HH4.out.allocE hwA)
        clear hwA HH4
        refine hK.out _ _ ((HH5).out.only 1 rfl) (fun hHeld => ?_); clear hK K; (try simp only [Act.put, lyA, lyB, lyC]); clear hHeld
        refine oS 6 (fun K hK => ?_); refine sh_store1 HH5.out rfl rfl rfl 0 rfl (Nat.le_of_ble_eq_true rfl) rfl (by kernel_rfl) ?_; intro w6 hh6; have HH6 := Lib.hid hh6; clear hh6 HH5; refine hK.out _ _ (HH6.out.only 1 rfl) (fun hHeld => ?_); clear hK K; (try simp only [Act.put, lyA, lyB, lyC]); refine wpAnyH_done (by kernel_rfl) ?_ _; simp only [noP]; go_wp2_with fail; go_meet; exact ⟨_, A2, c2, fA2, S2, _, rfl, k1, k2, Lib.hid rfl, HH6⟩
      · go_simp
        generalize hwA : World.alloc _ _ = w3
        have HH3 := Lib.hid (HH2.out.allocE hwA)
        clear hwA HH2
        refine hK.out _ _ ((HH3).out.only 1 rfl) (fun hHeld => ?_); clear hK K; (try simp only [Act.put, lyA, lyB, lyC])
        clear hHeld; refine oS 4 (fun K hK => ?_); go_simp; refine (take_ok HH3.out wb fA fn fc _ 2 4 (cntP n) (by decide) rfl S L rfl fs HF.out Hn.out hc hm hN).mono ?_; rintro e w4 ⟨A2, c2, fA2, S2, rfl, k1, k2, h2⟩; have HH4 := Lib.hid h2; clear HH3 h2; go_wp2_with fail
        have HH5 := HH4
        refine hK.out _ _ ((HH5).out.only 1 rfl) (fun hHeld => ?_); clear hK K; (try simp only [Act.put, lyA, lyB, lyC]); clear hHeld
        clear HH4
        refine oS 6 (fun K hK => ?_); refine sh_store1 HH5.out rfl rfl rfl 0 rfl (Nat.le_of_ble_eq_true rfl) rfl (by kernel_rfl) ?_; intro w6 hh6; have HH6 := Lib.hid hh6; clear hh6 HH5; refine hK.out _ _ (HH6.out.only 1 rfl) (fun hHeld => ?_); clear hK K; (try simp only [Act.put, lyA, lyB, lyC]); refine wpAnyH_done (by kernel_rfl) ?_ _; simp only [noP]; go_wp2_with fail; go_meet; exact ⟨_, A2, c2, fA2, S2, _, rfl, k1, k2, Lib.hid rfl, HH6⟩
    · go_simp
      generalize hwA : World.alloc _ _ = w3
      have HH3 := Lib.hid (HHd.out.allocE hwA)
      clear hwA HHd
      refine hK.out _ _ ((HH3).out.only 1 rfl) (fun hHeld => ?_); clear hK K; (try simp only [Act.put, lyA, lyB, lyC]); clear hHeld
      refine oS 3 (fun K hK => ?_)
      go_simp
      refine (count_any w3 n (by omega)).mono ?_
      rintro e w2 ⟨rfl, e2⟩
      have HH2 := Lib.hid (HH3.out.later e2)
      clear HH3 e2
      go_wp2_with fail
      refine hK.out _ _ ((HH2).out.only 1 rfl) (fun hHeld => ?_); clear hK K; (try simp only [Act.put, lyA, lyB, lyC])
      clear hHeld; refine oS 4 (fun K hK => ?_); go_simp; refine (take_ok HH2.out wb fA fn fc _ 2 4 (cntP n) (by decide) rfl S L rfl fs HF.out Hn.out hc hm hN).mono ?_; rintro e w4 ⟨A2, c2, fA2, S2, rfl, k1, k2, h2⟩; have HH4 := Lib.hid h2; clear HH2 h2; go_wp2_with fail
      have HH5 := HH4
      refine hK.out _ _ ((HH5).out.only 1 rfl) (fun hHeld => ?_); clear hK K; (try simp only [Act.put, lyA, lyB, lyC]); clear hHeld
      clear HH4
      refine oS 6 (fun K hK => ?_); refine sh_store1 HH5.out rfl rfl rfl 0 rfl (Nat.le_of_ble_eq_true rfl) rfl (by kernel_rfl) ?_; intro w6 hh6; have HH6 := Lib.hid hh6; clear hh6 HH5; refine hK.out _ _ (HH6.out.only 1 rfl) (fun hHeld => ?_); clear hK K; (try simp only [Act.put, lyA, lyB, lyC]); refine wpAnyH_done (by kernel_rfl) ?_ _; simp only [noP]; go_wp2_with fail; go_meet; exact ⟨_, A2, c2, fA2, S2, _, rfl, k1, k2, Lib.hid rfl, HH6⟩
  case rest =>
    obtain ⟨tb, A2, c2, fA2, S2, L2, rfl, k1, k2, HL2, HH⟩ := hcut
    have HM := Lib.hid (show (fA2, ints (fs.drop (cntP n))) ∈ L2 ∧ (A2, ints (fs.take (cntP n))) ∈ L2 ∧ ∀ q ∈ L, q ∈ L2 by rw [HL2.out]; exact ⟨List.mem_cons_self .., List.mem_cons_of_mem _ (List.mem_cons_self ..), fun q hq => List.mem_cons_of_mem _ (List.mem_cons_of_mem _ hq)⟩)
    have HT := Lib.hid (show (fs.take (cntP n)).length = cntP n by rw [List.length_take, ← Hn.out]; omega)
    have HCB := Lib.hid (show chB b (fs.take (cntP n)) = (List.range (chN 52 n)).map fun k => pgB (partO b k) ((fs.take (cntP n)).getD (k + 1) 0) by rw [Hb.out]; rfl)
    have HYb := Lib.hid (fun (k : Nat) => show 0 ≤ (fs.take (cntP n)).getD k 0 ∧ (fs.take (cntP n)).getD k 0 < 8192 by
      rcases Nat.lt_or_ge k (fs.take (cntP n)).length with h | h
      · rw [List.getD_eq_getElem?_getD, List.getElem?_eq_getElem h]
        exact HFS.out _ (List.mem_of_mem_take (List.getElem_mem h))
      · rw [List.getD_eq_getElem?_getD, List.getElem?_eq_none h]
        decide)
    have HBR := Lib.hid (fun (S' : Nat → Prop) (L' : RdL) (W : World) (its' : List It) (j : Nat) (hL : ∀ q ∈ L2, q ∈ L') (hW : Heap w0 its' W) (hj : its'[j]? = some (It.bag S' L')) => show Rd W 0 W.heap.size bA (bytes b) from by
      rcases HR.out with h | h
      · exact hW.old h
      · exact (hW.bagRd hj (hL _ (HM.out.2.2 _ h))).m0)
    clear HHd HL2
    generalize hys : fs.take (cntP n) = ys at *
    go_upto_region 3 with (refine shl_store1 (HH.out.alloc _ _) rfl rfl rfl rfl 0 rfl rfl rfl (by kernel_rfl) ?_; clear HH; intro wS HHS; have HH := Lib.hid HHS; clear HHS)
    obtain ⟨ib, hib⟩ : ∃ b, b = wc.heap.size := ⟨_, rfl⟩
    rw [← hib] at HH ⊢
    clear hib
    go_wp2_with fail
    refine (chunk_any _ bA n c 52 (by decide) (by decide)).mono ?_
    rintro e w2 ⟨rfl, rfl⟩
    generalize hwH : World.alloc (World.alloc wS _) _ = w2
    have HH2 := Lib.hid ((HH.out.alloc _ _).allocE hwH)
    clear HH hwH
    have HH := HH2
    clear HH2
    simp only [World.size_alloc] at HH
    obtain ⟨bs, hbs⟩ : ∃ b, b = wS.heap.size := ⟨_, rfl⟩
    obtain ⟨bm, hbm⟩ : ∃ b, b = wS.heap.size + 1 := ⟨_, rfl⟩
    rw [← hbm, ← hbs] at HH ⊢
    clear hbs hbm
    go_wp2_with fail
    refine rangeH (P := Tryz.prog) (α := Nat) (N := chN 52 n) (w0 := w0) (gf := 112) (lb := #[.pointer (some ⟨bs, 0, none⟩), .pointer (some ⟨bm, 0, none⟩)]) (encs := fun k => #[chV bA 52 n k]) (ok := fun pre k => k = pre.length) (S := fun xs => xs = List.range (chN 52 n))
      (fun pre L => ∃ (os : List Oct) (aA' : Option Addr) (ac' : Nat) (S' : Nat → Prop) (L' : RdL), L = .box bm [.int .i64 52] :: .box bs [.slice bA n c] :: .box ib [.int .i64 (pre.length : Int)] :: .box tb [.slice A2 (cntP n) c2] :: .box b2 [.pointer (some ⟨wb, 0, none⟩)] :: wits wb fA2 (fn - cntP n) (fc - cntP n) aA' ac' (acts ++ putA (ys.take pre.length) os) S' L' its ∧ os.map (·.xs) = (List.range pre.length).map (fun k => pgB (partO b k) (ys.getD (k + 1) 0)) ∧ (∀ o ∈ os, InBag L' o) ∧ ∀ q ∈ L2, q ∈ L') false rfl
      (enters_of Tryz.func112 (by kernel_rfl) rfl) (fun _ => rfl) (fun h => by cases h) (chunk_seq (by decide) (by decide) (by omega) hbc ?cells) ⟨[], aA, ac, S2, L2, by rw [List.length_nil, List.take_zero, show putA [] [] = [] from rfl, List.append_nil]; rfl, rfl, (by intro o h; simp at h), (fun q h => h)⟩ HH.out ?a1 ?assign ?body ?done
    case cells =>
      rintro pre L ⟨os, aA', ac', S', L', rfl, _⟩ W x y HW
      exact ⟨(HW.boxAt 3 rfl).cell 0 _ rfl, (HW.boxAt 2 rfl).cell 0 _ rfl⟩
    case assign =>
      intro l k W K hK
      simp only [chV]
      gi_wp2
      exact hK
    case body =>
      clear HH
      rintro l pre k y1 y2 y3 L W hlen hk ⟨os, aA', ac', S', L', rfl, hos, hob, hLL⟩ H
      have HKp := Lib.hid hk.symm
      rw [← hk] at hlen hos H
      clear hk
      have hk52 := (chN_lt (m := 52) (n := n) (k := k) (by decide)).1 hlen
      have HH := Lib.hid H
      have HOs := Lib.hid hos
      have HOb := Lib.hid hob
      have HLL := Lib.hid hLL
      have HOl := Lib.hid (show os.length = k by have h := congrArg List.length hos; simpa using h)
      clear H hos hob hLL
      have hkc : k < cntP n := hlen
      have hpart : Rd W 0 W.heap.size (bA.map (·.add (k * 52))) (bytes (partO b k)) := by
        rw [partO, ← bytes_take, ← bytes_drop]
        exact ((HBR.out _ _ _ _ 10 HLL.out HH.out rfl).drop _).take _
      have HPt := Lib.hid hpart
      have HPl := Lib.hid (show min 52 (n - k * 52) = (partO b k).length by rw [partO, List.length_take, List.length_drop, ← Hb.out])
      have hp52 := partO_len b k
      clear hpart
      refine wpIn_block ?_
      refine wpIn_seq ?_
      refine regionIn (by rintro ⟨_, _, h⟩; cases h.1) rfl ?_
      go_wp2_with fail
      (try simp only [Exit.then])
      have l1 : k < ys.length := by rw [HT.out]; exact hkc
      obtain ⟨gb, go, hgA, _, _⟩ := rd_int2 (HH.out.bagRd (j := 10) rfl (HLL.out _ HM.out.2.1)) l1
      subst hgA
      have HYv := Lib.hid (fun (W : World) (its' : List It) (j : Nat) (S' : Nat → Prop) (L' : RdL) (hW : Heap w0 its' W) (hj : its'[j]? = some (It.bag S' L')) (hL : ∀ q ∈ L2, q ∈ L') => show W.cell? ⟨gb, go + k, none⟩ = some (.int .i64 ys[k]) from rdI_at (hW.bagRd hj (hL _ HM.out.2.1)) l1)
      have HAk := Lib.hid (fun (o : Oct) => show acts ++ putA (ys.take (k + 1)) (os ++ [o]) = (acts ++ putA (ys.take k) os) ++ [⟨false, ys[k], o⟩] by
        rw [putA_snoc ys os o k l1 HOl.out, List.append_assoc])
      have hal : (acts ++ putA (ys.take k) os).length ≤ 2000000 := by
        rw [List.length_append, putA_len, List.length_take]; omega
      generalize acts ++ putA (ys.take k) os = ak at *
      by_cases hnx : k + 1 < cntP n
      · have hnd := Lib.hid (show decide ((k : Int) + 1 < ((cntP n : Nat) : Int)) = true by simp; omega)
        have l2 : k + 1 < ys.length := by rw [HT.out]; exact hnx
        have f1 := rdI_at (HH.out.bagRd (j := 10) rfl (HLL.out _ HM.out.2.1)) l2
        have HG := Lib.hid (show ys.getD (k + 1) 0 = ys[k + 1] by simp [List.getD, l2])
        have HYk := Lib.hid (HYb.out (k + 1))
        rw [HG.out] at HYk
        generalize ys[k + 1] = nx at *
        generalize ys[k] = yk at *
        refine wpIn_seq ?_
        refine wpIn_seq ?_
        refine regionIn (by rintro ⟨_, _, h⟩; cases h.1) rfl ?_
        go_wp2_with (first | (refine shl_load1 HH.out rfl rfl rfl 5 rfl rfl (by decide +kernel) ?_) | (refine shl_load1 HH.out rfl rfl rfl 6 rfl rfl (by decide +kernel) ?_))
        (try simp only [Exit.then])
        refine wpIn_cond_true (congrArg Value.bool hnd.out) ?_
        refine regionIn (by rintro ⟨_, _, h⟩; cases h.1) rfl ?_
        go_wp2_with (first | (refine shl_load1 HH.out rfl rfl rfl 5 rfl rfl (by decide +kernel) ?_) | (refine shl_load1 HH.out rfl rfl rfl 6 rfl rfl (by decide +kernel) ?_))
        clear f1
        (try simp only [Exit.then]); refine wpIn_seq ?_; refine regionIn (by rintro ⟨_, _, h⟩; cases h.1) rfl ?_; go_wp2_with fail; refine (pgenc_ok W _ _ _ (partO b k) _ HPl.out HPt.out hp52 HYk.out.1 HYk.out.2).mono ?_; rintro e w3 ⟨A3, c3, rfl, hown, e3⟩; obtain ⟨S3, H3⟩ := HH.out.bagExt (j := 10) rfl e3 (L2 := [(A3, bytes (pgB (partO b k) nx))]) (fun q hq => by simp only [List.mem_cons, List.not_mem_nil, or_false] at hq; subst hq; exact Rd.of_own hown); obtain ⟨q1, q2⟩ := own_form2 hown; have HH3 := Lib.hid H3; clear HH H3 hown e3; have HH := HH3; clear HH3; go_wp2_with fail; (try simp only [Exit.then]); refine wpIn_seq ?_; refine regionIn (by rintro ⟨_, _, h⟩; cases h.1) rfl ?_; go_wp2_with fail; refine (sneed_true w3 0).mono ?_; rintro e w4 ⟨rfl, rfl⟩; go_wp2_with fail; (try simp only [Exit.then]); refine wpIn_seq ?_; have HHd := Lib.hid HH.out.drew; clear HH; refine rgnMIn (fun z => Nat.blt z 14) (S := fun W => W.cell? ⟨b2, 0, none⟩ = some (.pointer (some ⟨wb, 0, none⟩)) ∧ W.cell? ⟨wb, 1, none⟩ = some (.slice aA' ak.length ac') ∧ W.cell? ⟨tb, 0, none⟩ = some (.slice (some ⟨gb, go, none⟩) (cntP n) c2) ∧ W.cell? ⟨ib, 0, none⟩ = some (.int .i64 (k : Int)) ∧ W.cell? ⟨gb, go + k, none⟩ = some (.int .i64 yk)) (by rintro ⟨_, _, h⟩; cases h.1) rfl (by kernel_rfl) ⟨(HHd.out.boxAt 7 rfl).cell 0 _ rfl, (HHd.out.boxAt 8 rfl).cell 1 _ rfl, (HHd.out.boxAt 6 rfl).cell 0 _ rfl, (HHd.out.boxAt 5 rfl).cell 0 _ rfl, HYv.out _ _ 10 _ _ HHd.out rfl (fun q hq => List.mem_cons_of_mem _ (HLL.out q hq))⟩ (fun hHeld => ?_); generalize World.drew w4 = wd at *; refine mS 0 ?_; (try simp only [Act.put, lyA, lyB, lyC]); refine mS 1 ?_; (try simp only [Act.put, lyA, lyB, lyC]); refine mS 2 ?_; (try simp only [Act.put, lyA, lyB, lyC]); refine mS 3 ?_; (try simp only [Act.put, lyA, lyB, lyC]); refine mS 4 ?_; (try simp only [Act.put, lyA, lyB, lyC]); refine mS 5 ?_; (try simp only [Act.put, lyA, lyB, lyC]); refine mS 6 ?_; (try simp only [Act.put, lyA, lyB, lyC]); refine mS 7 ?_; (try simp only [Act.put, lyA, lyB, lyC]); refine mS 8 ?_; (try simp only [Act.put, lyA, lyB, lyC]); refine mS 9 ?_; (try simp only [Act.put, lyA, lyB, lyC]); refine mS 10 ?_; (try simp only [Act.put, lyA, lyB, lyC]); clear hHeld; refine oneM 11 rfl (by kernel_rfl) (by kernel_rfl) (fun K hK => ?_); go_simp; generalize hwA : World.alloc _ _ = w6; have HH6 := Lib.hid (HHd.out.allocE hwA); clear hwA HHd; refine hK.out _ _ ⟨(HH6.out.boxAt 8 rfl).cell 0 _ rfl, (HH6.out.boxAt 9 rfl).cell 1 _ rfl, (HH6.out.boxAt 7 rfl).cell 0 _ rfl, (HH6.out.boxAt 6 rfl).cell 0 _ rfl, HYv.out _ _ 11 _ _ HH6.out rfl (fun q hq => List.mem_cons_of_mem _ (HLL.out q hq))⟩ (fun hHeld => ?_); clear hK K hHeld; (try simp only [Act.put, lyA, lyB, lyC]); refine oneM 12 rfl (by kernel_rfl) (by kernel_rfl) (fun K hK => ?_); refine sh_app (.tmp 43) (.tmp 50) _ rfl Tryz.underlying50 hi0 hz0 hz1 hz2 rfl (by omega) HH6.out 10 rfl rfl (m := 1) rfl rfl (HH6.out.boxRd 0 rfl) (by simp [Value.oneCell']) (by simp only [maxLen]; omega) (by omega) ?_; rintro v7 w7 hh7 ⟨A7, c7, rfl⟩; have HH7 := Lib.hid hh7.tail; clear hh7 HH6; refine hK.out _ _ ⟨(HH7.out.boxAt 7 rfl).cell 0 _ rfl, (HH7.out.boxAt 8 rfl).cell 1 _ rfl, (HH7.out.boxAt 6 rfl).cell 0 _ rfl, (HH7.out.boxAt 5 rfl).cell 0 _ rfl, HYv.out _ _ 10 _ _ HH7.out rfl (fun q hq => List.mem_cons_of_mem _ (HLL.out q hq))⟩ (fun hHeld => ?_); clear hK K hHeld; (try simp only [Act.put, lyA, lyB, lyC]); refine freeM 13 rfl (by kernel_rfl) (by kernel_rfl) (by kernel_rfl) (fun K hK => ?_); go_simp; refine hK.out _ _ ?_; clear hK K; (try simp only [Act.put, lyA, lyB, lyC]); refine pureM 14 (v := ?_) rfl (by kernel_rfl) (by kernel_rfl) (by kernel_rfl) (by kernel_rfl) (fun _ _ _ h => h) (by kernel_rfl) ?_ (fun h => absurd h (no_more (by kernel_rfl))) ?_; rotate_left; (focus (intro w; go_simp <;> with_reducible rfl)); (try simp only [Act.put, lyA, lyB, lyC]); refine freeM 15 rfl (by kernel_rfl) (by kernel_rfl) (by kernel_rfl) (fun K hK => ?_); refine sh_store1 HH7.out rfl rfl rfl 8 rfl (Nat.le_of_ble_eq_true rfl) rfl (by kernel_rfl) ?_; intro w8 hh8; have HH := Lib.hid hh8; clear hh8 HH7; refine hK.out _ _ ?_; clear hK K; (try simp only [Act.put, lyA, lyB, lyC]); refine doneM (by kernel_rfl) ?_; (try simp only [Exit.then]); refine regionIn (by rintro ⟨_, _, h⟩; cases h.1) rfl ?_; go_wp2_with (first | (refine shl_load1 HH.out rfl rfl rfl 5 rfl rfl (by decide +kernel) ?_) | (refine shl_store1 HH.out rfl rfl rfl rfl 5 rfl rfl rfl (by kernel_rfl) ?_; clear HH; intro wS HHS; have HH := Lib.hid HHS; clear HHS)); refine ⟨_, ⟨os ++ [⟨A3, 64, c3, pgB (partO b k) nx⟩], A7, c7, S3, [(A3, bytes (pgB (partO b k) nx))] ++ L', rfl, ?_, ?_, ?_⟩, ?_⟩; (focus (rw [HKp.out, List.map_append]; have h8 := HOs.out; have h9 := HG.out; simp only [List.getD_eq_getElem?_getD] at h8 h9; rw [h8, h9]; rfl)); (focus (intro o ho; rcases List.mem_append.1 ho with ho | ho; exact (HOb.out o ho).more _; simp only [List.mem_cons, List.not_mem_nil, or_false] at ho; subst ho; exact ⟨(pgB_len _ _ hp52).symm, q1, q2, List.mem_append_left _ (List.mem_cons_self ..)⟩)); (focus (intro a' b' hq; exact List.mem_append_right _ (HLL.out _ hq))); rw [HKp.out, HAk.out]; have h9 := HH.out; unfold wits; rw [List.length_append, List.flatMap_append]; exact h9
      · have hnd := Lib.hid (show decide ((k : Int) + 1 < ((cntP n : Nat) : Int)) = false by simp; omega)
        have HG := Lib.hid (show ys.getD (k + 1) 0 = 0 by simp [List.getD, show ¬ k + 1 < ys.length by rw [HT.out]; exact hnx])
        generalize ys[k] = yk at *
        have HYk := Lib.hid (show (0 : Int) ≤ 0 ∧ (0 : Int) < 8192 by decide)
        refine wpIn_seq ?_
        refine wpIn_seq ?_
        refine regionIn (by rintro ⟨_, _, h⟩; cases h.1) rfl ?_
        go_wp2_with (first | (refine shl_load1 HH.out rfl rfl rfl 5 rfl rfl (by decide +kernel) ?_) | (refine shl_load1 HH.out rfl rfl rfl 6 rfl rfl (by decide +kernel) ?_))
        (try simp only [Exit.then])
        refine wpIn_cond_false (congrArg Value.bool hnd.out) ?_
        refine wpIn_skip ?_
        (try simp only [Exit.then]); refine wpIn_seq ?_; refine regionIn (by rintro ⟨_, _, h⟩; cases h.1) rfl ?_; go_wp2_with fail; refine (pgenc_ok W _ _ _ (partO b k) _ HPl.out HPt.out hp52 HYk.out.1 HYk.out.2).mono ?_; rintro e w3 ⟨A3, c3, rfl, hown, e3⟩; obtain ⟨S3, H3⟩ := HH.out.bagExt (j := 10) rfl e3 (L2 := [(A3, bytes (pgB (partO b k) 0))]) (fun q hq => by simp only [List.mem_cons, List.not_mem_nil, or_false] at hq; subst hq; exact Rd.of_own hown); obtain ⟨q1, q2⟩ := own_form2 hown; have HH3 := Lib.hid H3; clear HH H3 hown e3; have HH := HH3; clear HH3; go_wp2_with fail; (try simp only [Exit.then]); refine wpIn_seq ?_; refine regionIn (by rintro ⟨_, _, h⟩; cases h.1) rfl ?_; go_wp2_with fail; refine (sneed_true w3 0).mono ?_; rintro e w4 ⟨rfl, rfl⟩; go_wp2_with fail; (try simp only [Exit.then]); refine wpIn_seq ?_; have HHd := Lib.hid HH.out.drew; clear HH; refine rgnMIn (fun z => Nat.blt z 14) (S := fun W => W.cell? ⟨b2, 0, none⟩ = some (.pointer (some ⟨wb, 0, none⟩)) ∧ W.cell? ⟨wb, 1, none⟩ = some (.slice aA' ak.length ac') ∧ W.cell? ⟨tb, 0, none⟩ = some (.slice (some ⟨gb, go, none⟩) (cntP n) c2) ∧ W.cell? ⟨ib, 0, none⟩ = some (.int .i64 (k : Int)) ∧ W.cell? ⟨gb, go + k, none⟩ = some (.int .i64 yk)) (by rintro ⟨_, _, h⟩; cases h.1) rfl (by kernel_rfl) ⟨(HHd.out.boxAt 7 rfl).cell 0 _ rfl, (HHd.out.boxAt 8 rfl).cell 1 _ rfl, (HHd.out.boxAt 6 rfl).cell 0 _ rfl, (HHd.out.boxAt 5 rfl).cell 0 _ rfl, HYv.out _ _ 10 _ _ HHd.out rfl (fun q hq => List.mem_cons_of_mem _ (HLL.out q hq))⟩ (fun hHeld => ?_); generalize World.drew w4 = wd at *; refine mS 0 ?_; (try simp only [Act.put, lyA, lyB, lyC]); refine mS 1 ?_; (try simp only [Act.put, lyA, lyB, lyC]); refine mS 2 ?_; (try simp only [Act.put, lyA, lyB, lyC]); refine mS 3 ?_; (try simp only [Act.put, lyA, lyB, lyC]); refine mS 4 ?_; (try simp only [Act.put, lyA, lyB, lyC]); refine mS 5 ?_; (try simp only [Act.put, lyA, lyB, lyC]); refine mS 6 ?_; (try simp only [Act.put, lyA, lyB, lyC]); refine mS 7 ?_; (try simp only [Act.put, lyA, lyB, lyC]); refine mS 8 ?_; (try simp only [Act.put, lyA, lyB, lyC]); refine mS 9 ?_; (try simp only [Act.put, lyA, lyB, lyC]); refine mS 10 ?_; (try simp only [Act.put, lyA, lyB, lyC]); clear hHeld; refine oneM 11 rfl (by kernel_rfl) (by kernel_rfl) (fun K hK => ?_); go_simp; generalize hwA : World.alloc _ _ = w6; have HH6 := Lib.hid (HHd.out.allocE hwA); clear hwA HHd; refine hK.out _ _ ⟨(HH6.out.boxAt 8 rfl).cell 0 _ rfl, (HH6.out.boxAt 9 rfl).cell 1 _ rfl, (HH6.out.boxAt 7 rfl).cell 0 _ rfl, (HH6.out.boxAt 6 rfl).cell 0 _ rfl, HYv.out _ _ 11 _ _ HH6.out rfl (fun q hq => List.mem_cons_of_mem _ (HLL.out q hq))⟩ (fun hHeld => ?_); clear hK K hHeld; (try simp only [Act.put, lyA, lyB, lyC]); refine oneM 12 rfl (by kernel_rfl) (by kernel_rfl) (fun K hK => ?_); refine sh_app (.tmp 43) (.tmp 50) _ rfl Tryz.underlying50 hi0 hz0 hz1 hz2 rfl (by omega) HH6.out 10 rfl rfl (m := 1) rfl rfl (HH6.out.boxRd 0 rfl) (by simp [Value.oneCell']) (by simp only [maxLen]; omega) (by omega) ?_; rintro v7 w7 hh7 ⟨A7, c7, rfl⟩; have HH7 := Lib.hid hh7.tail; clear hh7 HH6; refine hK.out _ _ ⟨(HH7.out.boxAt 7 rfl).cell 0 _ rfl, (HH7.out.boxAt 8 rfl).cell 1 _ rfl, (HH7.out.boxAt 6 rfl).cell 0 _ rfl, (HH7.out.boxAt 5 rfl).cell 0 _ rfl, HYv.out _ _ 10 _ _ HH7.out rfl (fun q hq => List.mem_cons_of_mem _ (HLL.out q hq))⟩ (fun hHeld => ?_); clear hK K hHeld; (try simp only [Act.put, lyA, lyB, lyC]); refine freeM 13 rfl (by kernel_rfl) (by kernel_rfl) (by kernel_rfl) (fun K hK => ?_); go_simp; refine hK.out _ _ ?_; clear hK K; (try simp only [Act.put, lyA, lyB, lyC]); refine pureM 14 (v := ?_) rfl (by kernel_rfl) (by kernel_rfl) (by kernel_rfl) (by kernel_rfl) (fun _ _ _ h => h) (by kernel_rfl) ?_ (fun h => absurd h (no_more (by kernel_rfl))) ?_; rotate_left; (focus (intro w; go_simp <;> with_reducible rfl)); (try simp only [Act.put, lyA, lyB, lyC]); refine freeM 15 rfl (by kernel_rfl) (by kernel_rfl) (by kernel_rfl) (fun K hK => ?_); refine sh_store1 HH7.out rfl rfl rfl 8 rfl (Nat.le_of_ble_eq_true rfl) rfl (by kernel_rfl) ?_; intro w8 hh8; have HH := Lib.hid hh8; clear hh8 HH7; refine hK.out _ _ ?_; clear hK K; (try simp only [Act.put, lyA, lyB, lyC]); refine doneM (by kernel_rfl) ?_; (try simp only [Exit.then]); refine regionIn (by rintro ⟨_, _, h⟩; cases h.1) rfl ?_; go_wp2_with (first | (refine shl_load1 HH.out rfl rfl rfl 5 rfl rfl (by decide +kernel) ?_) | (refine shl_store1 HH.out rfl rfl rfl rfl 5 rfl rfl rfl (by kernel_rfl) ?_; clear HH; intro wS HHS; have HH := Lib.hid HHS; clear HHS)); refine ⟨_, ⟨os ++ [⟨A3, 64, c3, pgB (partO b k) 0⟩], A7, c7, S3, [(A3, bytes (pgB (partO b k) 0))] ++ L', rfl, ?_, ?_, ?_⟩, ?_⟩; (focus (rw [HKp.out, List.map_append]; have h8 := HOs.out; have h9 := HG.out; simp only [List.getD_eq_getElem?_getD] at h8 h9; rw [h8, h9]; rfl)); (focus (intro o ho; rcases List.mem_append.1 ho with ho | ho; exact (HOb.out o ho).more _; simp only [List.mem_cons, List.not_mem_nil, or_false] at ho; subst ho; exact ⟨(pgB_len _ _ hp52).symm, q1, q2, List.mem_append_left _ (List.mem_cons_self ..)⟩)); (focus (intro a' b' hq; exact List.mem_append_right _ (HLL.out _ hq))); rw [HKp.out, HAk.out]; have h9 := HH.out; unfold wits; rw [List.length_append, List.flatMap_append]; exact h9
    case done =>
      rintro D y xs L W rfl ⟨os, aA', ac', S', L', rfl, hos, hob, hLL⟩ H
      have HH2 := Lib.hid H
      clear HH H
      have HH := HH2
      clear HH2
      rw [List.length_range] at hos HH
      have HOs := Lib.hid hos
      have HOb := Lib.hid hob
      have HLL := Lib.hid hLL
      clear hos hob hLL
      have ht : ys.take (chN 52 n) = ys := List.take_of_length_le (by rw [HT.out]; exact Nat.le_refl _)
      rw [ht] at HH
      clear ht
      (try simp only [Exit.inBlock, Exit.then])
      go_wp2_with (first | (refine shl_load1 HH.out rfl rfl rfl 5 rfl rfl (by decide +kernel) ?_))
      refine ⟨by simp, .inl ⟨_, _, rfl, run_takeDeferred (HH.out.objAt 1 rfl), ?_⟩⟩
      have H2 := HH.out.putObj 1 rfl (.deferred none)
      have H3 := H2.tail.tail.tail.tail.tail.tail.tail
      subst hys
      exact ⟨_, results_tmp rfl _ _ _, A2, c2, fA2, fc - cntP n, aA', ac', S', L', os, rfl, k1, k2, by rw [HCB.out]; exact HOs.out, HOb.out, HLL.out _ HM.out.2.1, HLL.out _ HM.out.1, by rw [← Hn.out]; omega, fun q hq => HLL.out _ (HM.out.2.2 _ hq), by rw [← Hn.out]; exact H3⟩
set_option maxRecDepth 100000 in
set_option maxHeartbeats 8000000 in
theorem wchain_bad {w0 w : World} {its : List It} (wb : Nat) (fA : Option Addr) (fn fc : Nat) (aA : Option Addr) (ac : Nat) (acts : List Ac) (S : Nat → Prop) (L : RdL) (H : Heap w0 (wits wb fA fn fc aA ac acts S L its) w)
    (bA : Option Addr) (n c : Nat) (hbn : n ≤ 65536) (hm : fn < cntP n) :
    Calls Tryz.prog 57 #[.pointer (some ⟨wb, 0, none⟩), .slice bA n c] w fun e w' => e = .panicked [{ v := errV 17, recovered := false }] ∧ Heap w0 (wits wb fA fn fc aA ac acts S L its) w' := by
  have HH := Lib.hid H
  clear H
  have hcp : cntP n ≤ 1261 := by unfold cntP; omega
  refine (callsIn_wide (n := 1)).1 (callsIn_of_wp_marks Tryz.func57 rfl trivial ?_ rfl)
  simp only [Tryz.ntmps57, List.size_toArray, List.length_cons, List.length_nil, Nat.reduceAdd, Nat.reduceSub, Array.replicate_succ, Array.replicate_zero, List.push_toArray, List.append_toArray, List.nil_append, List.cons_append]
  refine wpIn_wide.2 ?_
  go_upto_region 1 with fail
  generalize hwH : World.alloc w _ = w1
  have HH1 := Lib.hid (HH.out.allocE hwH)
  clear hwH HH
  obtain ⟨b2, hb2⟩ : ∃ b, b = w.heap.size := ⟨_, rfl⟩
  rw [← hb2] at HH1 ⊢
  clear hb2
  have HHd := Lib.hid HH1.out.drew
  clear HH1
  refine wp_onP (fun c ds W => ds = [] ∧ c = [{ v := errV 17, recovered := false }] ∧ Heap w0 (.box b2 [.pointer (some ⟨wb, 0, none⟩)] :: wits wb fA fn fc aA ac acts S L its) W) ?hp ?_
  case hp =>
    rintro c a W ⟨h1, rfl, h3⟩
    show LeavesInM _ _ _ _ _ _ a.defers _ W
    rw [h1]
    exact ⟨rfl, h3.tail⟩
  refine wp_region_held_drew (S := Heap w0 [.box b2 [.pointer (some ⟨wb, 0, none⟩)]]) (by kernel_rfl) (HHd.out.only 0 rfl) (fun hHeld => ?_)
  generalize World.drew w1 = wd at *
  refine tG 0 rfl (fun wT hST => sh_run_load1 hST rfl rfl 0 rfl rfl (by kernel_rfl)) hHeld ?_; (try simp only [Act.put, lyA, lyB, lyC])
  refine tS 1 ?_; (try simp only [Act.put, lyA, lyB, lyC])
  refine tS 2 ?_; (try simp only [Act.put, lyA, lyB, lyC])
  clear hHeld
  refine twoH 3 5 rfl rfl (by kernel_rfl) (by kernel_rfl) (by kernel_rfl) (fun K hK => ?_) (fun K hK => ?_)
  · go_simp
    refine (count_any wd n (by omega)).mono ?_
    rintro e w2 ⟨rfl, e2⟩
    have HH2 := Lib.hid (HHd.out.later e2)
    clear HHd e2
    go_wp2_with fail
    refine hK.out _ _ ((HH2).out.only 0 rfl) (fun hHeld => ?_); clear hK K; (try simp only [Act.put, lyA, lyB, lyC]); clear hHeld
    refine twoH 4 5 rfl rfl (by kernel_rfl) (by kernel_rfl) (by kernel_rfl) (fun K hK => ?_) (fun K hK => ?_)
    · go_simp
      refine (take_bad HH2.out wb fA fn fc _ 1 (cntP n) rfl hm (by omega)).mono ?_
      rintro e w4 ⟨rfl, h2⟩
      exact ⟨rfl, rfl, h2⟩
    · go_simp
      generalize hwA : World.alloc _ _ = w3
      have HH3 := Lib.hid (HH2.out.allocE hwA)
      clear hwA HH2
      refine hK.out _ _ ((HH3).out.only 1 rfl) (fun hHeld => ?_); clear hK K; (try simp only [Act.put, lyA, lyB, lyC])
      clear hHeld; refine oS 4 (fun K hK => ?_); go_simp; refine (take_bad HH3.out wb fA fn fc _ 2 (cntP n) rfl hm (by omega)).mono ?_; rintro e w4 ⟨rfl, h2⟩; exact ⟨rfl, rfl, h2.tail⟩
  · go_simp
    generalize hwA : World.alloc _ _ = w3
    have HH3 := Lib.hid (HHd.out.allocE hwA)
    clear hwA HHd
    refine hK.out _ _ ((HH3).out.only 1 rfl) (fun hHeld => ?_); clear hK K; (try simp only [Act.put, lyA, lyB, lyC]); clear hHeld
    refine oS 3 (fun K hK => ?_)
    go_simp
    refine (count_any w3 n (by omega)).mono ?_
    rintro e w2 ⟨rfl, e2⟩
    have HH2 := Lib.hid (HH3.out.later e2)
    clear HH3 e2
    go_wp2_with fail
    refine hK.out _ _ ((HH2).out.only 1 rfl) (fun hHeld => ?_); clear hK K; (try simp only [Act.put, lyA, lyB, lyC])
    clear hHeld; refine oS 4 (fun K hK => ?_); go_simp; refine (take_bad HH2.out wb fA fn fc _ 2 (cntP n) rfl hm (by omega)).mono ?_; rintro e w4 ⟨rfl, h2⟩; exact ⟨rfl, rfl, h2.tail⟩
end Go.Proofs.YtfongpdeflfioaaGreat
