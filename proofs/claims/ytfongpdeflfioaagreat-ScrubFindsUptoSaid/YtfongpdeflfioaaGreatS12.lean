/- The texts Dcd, Spu, Kp, Bag, Rt in one file. -/
import Derived.Test.YtfongpdeflfioaaGreatS11
import Derived.Test.YtfongpdeflfioaaGreatS6
import Derived.Test.YtfongpdeflfioaaGreatS9
import Derived.Defers
import Derived.Recover
import Derived.Test.YtfongpdeflfioaaGreatS2
/- bytes.Equal, pages.Decode. -/
namespace Go.Proofs.YtfongpdeflfioaaGreat
open Go.RowKit Go.Maps Go.Sort Go.Shelf
set_option linter.unusedVariables false
set_option linter.unusedSimpArgs false
theorem run_sl_to {P : Program} (w : World) (t e : TypeId) (inf : TypeInfo) (ht : P.underlying t = some (.slice e)) (hi : P.info? e = some inf) (hs : inf.size = 1) (b o n c m : Nat) (M : Int) (hM : M = (m : Int)) (hm : m ≤ c) :
    (Instr.slice t (.slice (some ⟨b, o, none⟩) n c) none (some (.int .i64 M)) none).run P w = .ok (.slice (some ⟨b, o, none⟩) m c) w := by
  subst hM
  have hb : (Instr.sliceBounds true n c none (some (.int .i64 (m : Int))) none).run P w = .ok (0, m, c) w := by
    simp [Instr.sliceBounds, run_sliceBound (P := P) w .i64 (m : Int) c .sliceAcap (by omega) (by omega)]
  simp [Instr.slice, run_underlying ht, hb, sizeOf, typeInfo, hi, hs, add_lit]
theorem run_sl_mid {P : Program} (w : World) (t e : TypeId) (inf : TypeInfo) (ht : P.underlying t = some (.slice e)) (hi : P.info? e = some inf) (hs : inf.size = 1) (b o n c k m : Nat) (K M : Int) (hK : K = (k : Int)) (hM : M = (m : Int)) (hkm : k ≤ m) (hm : m ≤ c) (hkc : k < c) :
    (Instr.slice t (.slice (some ⟨b, o, none⟩) n c) (some (.int .i64 K)) (some (.int .i64 M)) none).run P w = .ok (.slice (some ⟨b, o + k, none⟩) (m - k) (c - k)) w := by
  subst hK
  subst hM
  have hb : (Instr.sliceBounds true n c (some (.int .i64 (k : Int))) (some (.int .i64 (m : Int))) none).run P w = .ok (k, m, c) w := by
    simp [Instr.sliceBounds, run_sliceBound (P := P) w .i64 (m : Int) c .sliceAcap (by omega) (by omega), run_sliceBound (P := P) w .i64 (k : Int) m .sliceB (by omega) (by omega)]
  have hne : ¬ c = k := by omega
  simp [Instr.slice, run_underlying ht, hb, sizeOf, typeInfo, hi, hs, hne, add_lit]
theorem toArray_inj {a b : List UInt8} : ((⟨a.toArray⟩ : ByteArray).toList == (⟨b.toArray⟩ : ByteArray).toList) = decide (a = b) := by
  rw [Lib.toList_data, Lib.toList_data]
  rw [Bool.eq_iff_iff]
  simp
set_option maxRecDepth 100000 in
set_option maxHeartbeats 1000000 in
theorem bequal_any (w : World) (A B : Option Addr) (n c m d : Nat) (a b : List UInt8) (hn : n = a.length) (hm : m = b.length) (hA : Rd w 0 w.heap.size A (bytes a)) (hB : Rd w 0 w.heap.size B (bytes b)) :
    Calls Tryz.prog 78 #[.slice A n c, .slice B m d] w fun e w' => e = .returned (.bool (decide (a = b))) ∧ Ext w w' := by
  have c1 : (convert 33 9 (.slice A n c)).run Tryz.prog w = .ok (.string ⟨a.toArray⟩) w := run_conv_str w _ _ 5 Tryz.underlying33 Tryz.underlying5 Tryz.underlying9 _ _ A n c a hn hA
  have c2 : (convert 33 9 (.slice B m d)).run Tryz.prog w = .ok (.string ⟨b.toArray⟩) w := run_conv_str w _ _ 5 Tryz.underlying33 Tryz.underlying5 Tryz.underlying9 _ _ B m d b hm hB
  have HT := Lib.hid (toArray_inj (a := a) (b := b))
  generalize decide (a = b) = V at *
  generalize (⟨a.toArray⟩ : ByteArray) = sa at *
  generalize (⟨b.toArray⟩ : ByteArray) = sb at *
  clear hA hB hn hm
  go_enter Tryz.func78, Tryz.ntmps78
  go_wp2_with fail
  go_ret
  exact ⟨retB (by rw [← HT.out]), Ext.refl _⟩
def dcN (s : List UInt8) : Nat := val (s.take 2)
def dcX (s : List UInt8) : Nat := val ((s.drop 2).take 2)
def dcD (s : List UInt8) : List UInt8 := (s.drop 4).take (dcN s)
def dcOk (s : List UInt8) : Bool := decide (s.length = 64) && decide (dcN s ≤ 52) && decide (pgE (dcD s) (dcX s : Int) = 0) && decide (s = pgB (dcD s) (dcX s : Int))
def DcOut (w : World) (s : List UInt8) (e : Ending) (w' : World) : Prop :=
  ∃ v n, e = .returned (.tuple #[v, .int .i64 (if dcOk s = true then (dcX s : Int) else 0), .int .i64 (if dcOk s = true then 0 else 21)]) ∧ w'.ownsRow w.heap.size 5 1 v n (bytes (if dcOk s = true then dcD s else [])) ∧ Ext w w'
theorem dcOut_bad {w w' : World} {s : List UInt8} (h : dcOk s = false) (e : Ext w w') : DcOut w s (.returned (.tuple #[.slice none 0 0, .int .i64 0, .int .i64 21])) w' := by
  unfold DcOut
  rw [h]
  exact ⟨_, 0, rfl, World.ownsRow_nil _ _ _ _, e⟩
theorem num2 (l : List UInt8) (h : l.length = 2) : numV l = (val l : Int) := by
  have := val_lt l
  rw [h] at this
  unfold numV
  rw [if_neg (by omega), if_neg (by omega), if_neg (by omega)]
set_option maxRecDepth 100000 in
set_option maxHeartbeats 8000000 in
theorem pgdec_any (w : World) (A : Option Addr) (n c : Nat) (s : List UInt8) (hn : n = s.length) (hr : Rd w 0 w.heap.size A (bytes s)) (hnc : n ≤ c) (hm : c ≤ maxLen) :
    Calls Tryz.prog 37 #[.slice A n c] w (DcOut w s) := by
  obtain ⟨i0, hi0, hz0, hz1, hz2⟩ := info_parts info5
  simp only [maxLen] at hm
  have Hn := Lib.hid hn
  have HR := Lib.hid hr
  have HO := Lib.hid (show dcOk s = (decide (s.length = 64) && decide (dcN s ≤ 52) && decide (pgE (dcD s) (dcX s : Int) = 0) && decide (s = pgB (dcD s) (dcX s : Int))) from rfl)
  by_cases h1 : n = 64
  · obtain ⟨b, o, rfl, hb1, hb2, hcs⟩ := hr (fun e => by have := congrArg List.length e; rw [bytes_length, ← hn] at this; simp at this; omega)
    clear hr hcs hb1 hb2 hn
    have HT1 := Lib.hid (show Rd w 0 w.heap.size (some ⟨b, o, none⟩) (bytes (s.take 2)) by rw [← bytes_take]; exact HR.out.take 2)
    have HT2 := Lib.hid (show Rd w 0 w.heap.size (some ⟨b, o + 2, none⟩) (bytes ((s.drop 2).take 2)) by rw [← bytes_take, ← bytes_drop]; exact (HR.out.step 2).take 2)
    have HL := Lib.hid (show s.length = 64 by rw [← Hn.out]; exact h1)
    have HN1 := Lib.hid (show numV (s.take 2) = (dcN s : Int) from num2 _ (by rw [List.length_take, HL.out]; rfl))
    have HN2 := Lib.hid (show numV ((s.drop 2).take 2) = (dcX s : Int) from num2 _ (by rw [List.length_take, List.length_drop, HL.out]; rfl))
    have hx : dcX s < 65536 := by
      have := val_lt ((s.drop 2).take 2)
      rw [List.length_take, List.length_drop, HL.out] at this
      exact this
    have hN : dcN s < 65536 := by
      have := val_lt (s.take 2)
      rw [List.length_take, HL.out] at this
      exact this
    have HC1 := Lib.hid (fun W (hW : Ext w W) => number_any W (some ⟨b, o, none⟩) 2 c 0 W.heap.size (s.take 2) (by rw [List.length_take, HL.out]; rfl) (by decide) (Rd.at HT1.out hW (Nat.le_refl _)) (Nat.le_refl _))
    have HC2 := Lib.hid (fun W (hW : Ext w W) => number_any W (some ⟨b, o + 2, none⟩) 2 (c - 2) 0 W.heap.size ((s.drop 2).take 2) (by rw [List.length_take, List.length_drop, HL.out]; rfl) (by decide) (Rd.at HT2.out hW (Nat.le_refl _)) (Nat.le_refl _))
    rw [HN1.out] at HC1
    rw [HN2.out] at HC2
    have hs1 := fun W => run_sl_to (P := Tryz.prog) W 33 5 i0 Tryz.underlying33 hi0 hz1 b o n c 2 2 rfl (by omega)
    have hs2 := fun W => run_sl_mid (P := Tryz.prog) W 33 5 i0 Tryz.underlying33 hi0 hz1 b o n c 2 4 2 4 rfl rfl (by omega) (by omega) (by omega)
    clear HN1 HN2 HT1 HT2
    generalize numE (s.take 2) = E1 at *
    generalize numE ((s.drop 2).take 2) = E2 at *
    obtain ⟨nn, hnn⟩ : ∃ nn, nn = dcN s := ⟨_, rfl⟩
    obtain ⟨xx, hxx⟩ : ∃ xx, xx = dcX s := ⟨_, rfl⟩
    rw [← hnn] at HC1 hN
    rw [← hxx] at HC2 hx
    have HNN := Lib.hid hnn
    have HXX := Lib.hid hxx
    clear hnn hxx
    subst h1
    go_enter Tryz.func37, Tryz.ntmps37
    by_cases h2 : 52 < nn
    · have HB := Lib.hid (show dcOk s = false by rw [HO.out, ← HNN.out]; simp; omega)
      go_wp2_with (first | (go_at_call 79; refine (HC1.out _ (by exact blo)).mono ?_; clear HC1; rintro e w1 ⟨rfl, e1⟩) | (go_at_call 79; refine (HC2.out _ (by exact blo)).mono ?_; clear HC2; rintro e w2 ⟨rfl, e2⟩))
      go_ret3
      exact dcOut_bad HB.out (e1.trans e2)
    · have HD := Lib.hid (show Rd w 0 w.heap.size (some ⟨b, o + 4, none⟩) (bytes (dcD s)) by rw [dcD, ← bytes_take, ← bytes_drop]; exact (HR.out.step 4).take _)
      have HDl := Lib.hid (show nn = (dcD s).length by rw [dcD, List.length_take, List.length_drop, HL.out, ← HNN.out]; omega)
      rw [← HNN.out, ← HXX.out] at HO
      have HOut := Lib.hid (show ∀ v m w', dcOk s = true → w'.ownsRow w.heap.size 5 1 v m (bytes (dcD s)) → Ext w w' → DcOut w s (.returned (.tuple #[v, .int .i64 (xx : Int), .int .i64 0])) w' from fun v m w' h1 h2 h3 => by
        unfold DcOut
        rw [h1, ← HXX.out]
        exact ⟨v, m, rfl, h2, h3⟩)
      generalize dcD s = D at *
      go_wp2_with (first | (go_at_call 79; refine (HC1.out _ (by exact blo)).mono ?_; clear HC1; rintro e w1 ⟨rfl, e1⟩) | (go_at_call 79; refine (HC2.out _ (by exact blo)).mono ?_; clear HC2; rintro e w2 ⟨rfl, e2⟩))
      have E2' : Ext w w2 := e1.trans e2
      refine (pgenc_any w2 (some ⟨b, o + 4, none⟩) nn (c - 4) D (xx : Int) HDl.out (Rd.at HD.out E2' (Nat.le_refl _)) (by omega) (by omega) (by omega)).mono ?_
      rintro e w3 ⟨v, n3, rfl, hr3, e3⟩
      have E3 : Ext w w3 := E2'.trans e3
      clear e1 e2 e3 E2'
      by_cases h3 : pgE D (xx : Int) = 0
      · rw [h3] at hr3 HO ⊢
        rw [if_pos rfl] at hr3
        generalize pgB D (xx : Int) = PB at *
        obtain ⟨A3, c3, rfl, _, _, _⟩ := own_form hr3
        have h3l : n3 = PB.length := by have := hr3.1; rw [bytes_length, Nat.mul_one] at this; exact this.symm
        have HE := Lib.hid (bequal_any w3 (some ⟨b, o, none⟩) A3 64 c n3 c3 s PB Hn.out h3l (Rd.at HR.out E3 (Nat.le_refl _)) ((Rd.of_own hr3).m0))
        clear hr3 h3l h3
        cases hEq : decide (s = PB)
        · have HB := Lib.hid (show dcOk s = false by rw [HO.out, hEq]; simp)
          rw [hEq] at HE
          go_wp2_with (go_at_call 78; refine HE.out.mono ?_; rintro e w4 ⟨rfl, e4⟩)
          go_ret3
          exact dcOut_bad HB.out (E3.trans e4)
        · have HB := Lib.hid (show dcOk s = true by rw [HO.out, hEq, HL.out]; simp; omega)
          rw [hEq] at HE
          have HCl := Lib.hid (fun W (hW : Ext w W) => cloneb_any W w.heap.size hW.size (some ⟨b, o + 4, none⟩) nn (c - 4) D HDl.out (Rd.at HD.out hW (Nat.le_refl _)) (by omega))
          go_wp2_with (first | (go_at_call 78; refine HE.out.mono ?_; rintro e w4 ⟨rfl, e4⟩))
          refine (HCl.out w4 (E3.trans e4)).mono ?_
          rintro e w5 ⟨v5, rfl, hr5, e5⟩
          have HO5 := Lib.hid hr5
          clear hr5
          go_wp2_with fail
          go_ret3
          exact HOut.out v5 _ w5 HB.out HO5.out ((E3.trans e4).trans e5)
      · have HB := Lib.hid (show dcOk s = false by rw [HO.out]; simp [h3])
        clear hr3
        generalize pgE D (xx : Int) = PE at *
        go_wp2_with fail
        go_ret3
        exact dcOut_bad HB.out E3
  · have HB := Lib.hid (show dcOk s = false by rw [HO.out, ← Hn.out]; simp [h1])
    have h1' : ¬ (n : Int) = 64 := by omega
    go_enter Tryz.func37, Tryz.ntmps37
    go_wp2_with fail
    go_ret3
    exact dcOut_bad HB.out (Ext.refl _)
end Go.Proofs.YtfongpdeflfioaaGreat
/- Sectors that may be: in their bounds, each once; the part of an object that a page holds. -/
namespace Go.Proofs.YtfongpdeflfioaaGreat
open Go.RowKit Go.Maps Go.Sort Go.Shelf
def partO (l : List UInt8) (k : Nat) : List UInt8 := (l.drop (k * 52)).take 52
theorem uni_uni (l : List Int) : (uni (uni l)).length = (uni l).length := by
  have n1 : ∀ l : List Int, (uni l).Nodup := fun l => (uni_sorted l).imp fun h => by omega
  exact ((List.perm_ext_iff_of_nodup (n1 _) (n1 _)).2 fun x => mem_uni _).length_eq
theorem spE_uni (total : Int) (l : List Int) (h : spE total l = 0) : spE total (uni l) = 0 ∧ 2 ≤ total ∧ total ≤ 8192 ∧ (∀ y ∈ l, 2 ≤ y ∧ y < total) ∧ (uni l).length = l.length := by
  unfold spE at h ⊢
  split at h
  · cases h
  · rename_i h1
    split at h
    · cases h
    · rename_i h2
      have h3 : ¬ l.any (badN total) = true := fun q => h1 (.inr (.inr q))
      have hall : ∀ y ∈ l, 2 ≤ y ∧ y < total := fun y hy => by
        have : badN total y = false := by
          cases hb : badN total y
          · rfl
          · exact absurd (List.any_eq_true.2 ⟨y, hy, hb⟩) h3
        simp [badN] at this
        omega
      refine ⟨?_, by omega, by omega, hall, by simpa using h2⟩
      rw [if_neg, if_neg (by rw [uni_uni]; simp)]
      rintro (q | q | q)
      · omega
      · omega
      · obtain ⟨y, hy, hb⟩ := List.any_eq_true.1 q
        exact h3 (List.any_eq_true.2 ⟨y, (mem_uni _).1 hy, hb⟩)
end Go.Proofs.YtfongpdeflfioaaGreat
/- store's kept, right, Slot. -/
namespace Go.Proofs.YtfongpdeflfioaaGreat
open Go.RowKit Go.Maps Go.Sort Go.Shelf
set_option linter.unusedVariables false
set_option linter.unusedSimpArgs false
def sameB (key : ByteArray) (data : List UInt8) (o : Ob) : Bool := decide (o.key = key) && decide (o.data.xs = data)
def keptO (xs : List Ob) (key : ByteArray) (data : List UInt8) : Option Ob := xs.find? (sameB key data)
def keptL (xs : List Ob) (key : ByteArray) (data : List UInt8) : List Int := ((keptO xs key data).map fun o => o.locs.xs).getD []
def KpOut (w : World) (xs : List Ob) (key : ByteArray) (data : List UInt8) (e : Ending) (w' : World) : Prop :=
  ∃ A c, e = .returned (.tuple #[.slice A (keptL xs key data).length c, .bool (keptO xs key data).isSome]) ∧ w'.ownsRow w.heap.size 3 1 (.slice A (keptL xs key data).length c) (keptL xs key data).length (ints (keptL xs key data)) ∧ Ext w w'
theorem find_take {xs : List Ob} {p : Ob → Bool} {k : Nat} (h : ∀ o ∈ xs.take k, p o = false) (hk : k < xs.length) (hp : p xs[k] = true) : xs.find? p = some xs[k] := by
  have h1 : xs = xs.take k ++ xs[k] :: xs.drop (k + 1) := by rw [← List.drop_eq_getElem_cons hk, List.take_append_drop]
  conv => lhs; rw [h1]
  rw [List.find?_append, List.find?_eq_none.2 (fun o ho => by rw [h o ho]; simp), List.find?_cons, hp]
  rfl
theorem toList_eq {a b : ByteArray} : (a.toList == b.toList) = decide (a = b) := by
  rw [Bool.eq_iff_iff]
  simp only [beq_iff_eq, decide_eq_true_eq]
  constructor
  · intro h
    rw [Lib.toList_data, Lib.toList_data] at h
    cases a; cases b
    simp only [Array.toList_inj] at h
    rw [h]
  · rintro rfl; rfl
set_option maxRecDepth 100000 in
set_option maxHeartbeats 8000000 in
theorem kept_any (w : World) (s : Sto) (x : Ob) (h : Sto.At w 0 w.heap.size s) (hx : Ob.At w 0 w.heap.size x) (hl : ∀ o ∈ s.objs.xs, o.locs.n ≤ 10000000) : Calls Tryz.prog 54 #[.agg s.cells.toArray, .agg x.cells.toArray] w (KpOut w s.objs.xs x.key x.data.xs) := by
  have HR := Lib.hid h.objs.rd
  have HA := Lib.hid h.objs.all
  have Hn := Lib.hid h.objs.len
  have HX := Lib.hid hx
  have HLn := Lib.hid hl
  have hm : s.objs.n ≤ 9223372036854775807 := Nat.le_trans h.objs.le h.objs.cap
  have HV := Lib.hid (show keptO s.objs.xs x.key x.data.xs = s.objs.xs.find? (sameB x.key x.data.xs) from rfl)
  have HL := Lib.hid (show keptL s.objs.xs x.key x.data.xs = ((keptO s.objs.xs x.key x.data.xs).map fun o => o.locs.xs).getD [] from rfl)
  unfold KpOut
  generalize keptL s.objs.xs x.key x.data.xs = KL at *
  generalize keptO s.objs.xs x.key x.data.xs = KO at *
  clear h hx hl
  obtain ⟨⟨⟨sA, sn, sc, sx⟩, ⟨wA, wn, wc, wx⟩⟩, ⟨ut, uf, uo⟩, ⟨oA, on, oc, ox⟩, ⟨iA, im, ic, ix⟩⟩ := s
  obtain ⟨xk, ⟨xA, xn, xc, xx⟩, ⟨yA, yn, yc, yx⟩⟩ := x
  simp only [Sto.cells, Ob.cells, Sl.val] at *
  go_enter Tryz.func54, Tryz.ntmps54
  go_upto_region 1 with fail
  generalize hwH : World.alloc (World.alloc w _) _ = w1; have HH := Lib.hid (Heap.two hwH); clear hwH
  go_wp2_with (refine shl_load1 HH.out rfl rfl rfl 1 rfl rfl (by decide +kernel) ?_)
  go_loopw [11] (fun v wr => ∃ k : Nat, k ≤ on ∧ v = .int .i64 (k : Int) ∧ Hid (∀ o ∈ ox.take k, sameB xk xx o = false) ∧ Hid (Heap w [.box (w.heap.size + 1) [.string xk, .slice xA xn xc, .slice yA yn yc], .box w.heap.size [.slice sA sn sc, .slice wA wn wc, .int .i64 ut, .int .i64 uf, .int .i64 uo, .slice oA on oc, .slice iA im ic]] wr)) (fun v _ => on - (intOf v).toNat)
  case atStart => exact ⟨0, Nat.zero_le _, rfl, Lib.hid (by simp), HH⟩
  case round =>
    clear HH
    obtain ⟨k, hk, rfl, HK, HH⟩ := hrel
    by_cases hlt : k < on
    · have l1 : k < ox.length := by rw [← Hn.out]; exact hlt
      obtain ⟨b1, o1, rfl, hb1, f0, f1, f2⟩ := rd_ob (HR.out.ext HH.out.ext (Nat.le_refl _)) l1
      have HOA := Lib.hid (HA.out _ (List.getElem_mem l1))
      have HOl := Lib.hid (HLn.out _ (List.getElem_mem l1))
      have HS := Lib.hid (fun hp => find_take (p := sameB xk xx) HK.out l1 hp)
      have HT := Lib.hid (List.take_succ_eq_append_getElem l1)
      generalize ox[k] = o at *
      obtain ⟨ok, ⟨dA, dn, dc, dx⟩, ⟨lA, ln, lc, lx⟩⟩ := o
      simp only [Sl.val] at f1 f2
      dsimp only at f0
      have HSB := Lib.hid (show sameB xk xx ⟨ok, ⟨dA, dn, dc, dx⟩, ⟨lA, ln, lc, lx⟩⟩ = (decide (ok = xk) && decide (dx = xx)) from rfl)
      go_upto_region 4 with (first | (refine shl_store (HH.out.alloc _ _) sizeOb rfl rfl rfl rfl 0 rfl rfl rfl rfl ?_; clear HH; intro wS HHS; have HH := Lib.hid HHS; clear HHS))
      have hte := toList_eq (a := ok) (b := xk)
      by_cases hkey : ok = xk
      · rw [decide_eq_true hkey] at hte HSB
        have c0 := (HH.out.boxAt 0 rfl).cell 0 _ rfl
        have c1 := (HH.out.boxAt 0 rfl).cell 1 _ rfl
        have c2 := (HH.out.boxAt 1 rfl).cell 0 _ rfl
        have c3 := (HH.out.boxAt 1 rfl).cell 1 _ rfl
        go_wp2_with fail
        refine (bequal_any wS dA xA dn dc xn xc dx xx HOA.out.data.len HX.out.data.len (Rd.at HOA.out.data.rdb HH.out.ext (Nat.le_refl _)) (Rd.at HX.out.data.rdb HH.out.ext (Nat.le_refl _))).mono ?_
        rintro e w5 ⟨rfl, e5⟩
        have HH5 := Lib.hid (HH.out.later e5)
        clear HH e5 c0 c1 c2 c3
        have HH := HH5
        clear HH5
        by_cases hd : dx = xx
        · rw [decide_eq_true hd] at HSB ⊢
          have hKO := HV.out.trans (HS.out HSB.out)
          clear HV HS
          subst hKO
          have hKL : KL = lx := HL.out
          clear HL
          subst hKL
          have hll : ln = KL.length := HOA.out.locs.len
          subst hll
          go_wp2_with (first | (refine shl_load1 HH.out rfl rfl rfl 0 rfl rfl (by decide +kernel) ?_))
          refine (iclone_any w5 lA KL.length lc KL rfl (Rd.at HOA.out.locs.rdi HH.out.ext (Nat.le_refl _)) (by have := HOl.out; (try dsimp only at this); omega)).mono ?_
          rintro e w6 ⟨v6, rfl, hown, e6⟩
          have HO := Lib.hid (own_lower hown HH.out.ext.size)
          have HX6 := Lib.hid (HH.out.ext.trans e6)
          obtain ⟨A6, c6, rfl, _, _, _⟩ := own_form HO.out
          clear hown e6 HH
          go_wp2_with fail
          go_ret2
          exact ⟨A6, c6, rfl, HO.out, HX6.out⟩
        · rw [decide_eq_false hd] at HSB ⊢
          go_wp2_with fail
          go_roundw
          case rel =>
            refine ⟨k + 1, by omega, by go_num, Lib.hid (fun z hz => ?_), Lib.hid HH.out.tail⟩
            rw [HT.out] at hz
            rcases List.mem_append.1 hz with hz | hz
            · exact HK.out z hz
            · simp only [List.mem_singleton] at hz; subst hz; exact HSB.out
          case measure => simp [intOf]; omega
      · rw [decide_eq_false hkey] at hte HSB
        have c0 := (HH.out.boxAt 0 rfl).cell 0 _ rfl
        have c2 := (HH.out.boxAt 1 rfl).cell 0 _ rfl
        go_wp2_with fail
        go_roundw
        case rel =>
          refine ⟨k + 1, by omega, by go_num, Lib.hid (fun z hz => ?_), Lib.hid HH.out.tail⟩
          rw [HT.out] at hz
          rcases List.mem_append.1 hz with hz | hz
          · exact HK.out z hz
          · simp only [List.mem_singleton] at hz; subst hz; exact HSB.out
        case measure => simp [intOf]; omega
    · obtain rfl : on = k := by omega
      have ht : ox.take on = ox := List.take_of_length_le (by rw [← Hn.out]; exact Nat.le_refl _)
      have hKO : KO = none := by
        rw [HV.out, List.find?_eq_none]
        intro o ho
        have := HK.out o (by rw [ht]; exact ho)
        rw [this]; simp
      subst hKO
      have hKL : KL = [] := HL.out
      subst hKL
      go_wp2_with fail
      go_ret2
      exact ⟨none, 0, rfl, World.ownsRow_nil _ _ _ _, HH.out.ext⟩
end Go.Proofs.YtfongpdeflfioaaGreat
/- What calls made and what reads on, kept as one item of a world. store.need, store's writer.take. -/
namespace Go.Proofs.YtfongpdeflfioaaGreat
open Go.RowKit Go.Maps Go.Sort Go.Shelf
set_option linter.unusedVariables false
set_option linter.unusedSimpArgs false
abbrev RdL := List (Option Addr × List Value)
def It.bag (S : Nat → Prop) (L : RdL) : It :=
  .any S (fun w => (∀ k, S k → k < w.heap.size) ∧ ∀ q ∈ L, RdK w S q.1 q.2) (fun w k h hk => h.1 k hk) (fun w w' hs hk h => ⟨fun k h1 => Nat.lt_of_lt_of_le (h.1 k h1) hs, fun q hq hn => by
    obtain ⟨b, o, e, h1, h2, h3⟩ := h.2 q hq hn
    exact ⟨b, o, e, Nat.lt_of_lt_of_le h1 hs, h2, fun j u hu => (World.cell?_of_block (w := w) (a := ⟨b, o + j, none⟩) (hk b h2)).trans (h3 j u hu)⟩⟩)
section
variable {w0 w w' : World} {its : List It} {j : Nat} {S : Nat → Prop} {L L2 : RdL}
theorem Heap.bag0 (H : Heap w0 its w) : Heap w0 (It.bag (fun _ => False) [] :: its) w :=
  H.add (Ext.refl w) ⟨fun k hk => hk.elim, fun k hk => hk.elim, fun q hq => by cases hq⟩ (fun k hk => hk.elim)
theorem Heap.bagExt (H : Heap w0 its w) (hj : its[j]? = some (It.bag S L)) (e : Ext w w') (h : ∀ q ∈ L2, Rd w' w.heap.size w'.heap.size q.1 q.2) : ∃ S', Heap w0 (its.set j (It.bag S' (L2 ++ L))) w' := by
  have hb := H.all j _ hj
  refine ⟨fun k => S k ∨ (w.heap.size ≤ k ∧ k < w'.heap.size), H.upd hj (Keep.of_ext e) ⟨fun k hk => ?_, fun k hk => ?_, fun q hq => ?_⟩ (fun k hk => ?_) (fun k hk => ?_) (fun k hk => hb.1 k hk)⟩
  · rcases hk with hk | hk
    · exact hb.1 k hk
    · exact Nat.le_trans H.ext.size hk.1
  · rcases hk with hk | hk
    · exact Nat.lt_of_lt_of_le (hb.2.1 k hk) e.size
    · exact hk.2
  · rcases List.mem_append.1 hq with hq | hq
    · intro hn
      obtain ⟨b, o, ha, h1, h2, h3⟩ := h q hq hn
      exact ⟨b, o, ha, h2, .inr ⟨h1, h2⟩, h3⟩
    · intro hn
      obtain ⟨b, o, ha, h1, h2, h3⟩ := hb.2.2 q hq hn
      exact ⟨b, o, ha, Nat.lt_of_lt_of_le h1 e.size, .inl h2, fun j u hu => (Below.cell (p := ⟨b, o + j, none⟩) e h1).trans (h3 j u hu)⟩
  · rcases hk with hk | hk
    · exact .inl hk
    · exact .inr hk.1
  · rcases hk with hk | hk
    · exact .inl hk
    · exact .inr hk.1
theorem Heap.bagMore (H : Heap w0 its w) (hj : its[j]? = some (It.bag S L)) (h : ∀ q ∈ L2, ∀ ok, (∀ q ∈ L, RdK w ok q.1 q.2) → RdK w ok q.1 q.2) : Heap w0 (its.set j (It.bag S (L2 ++ L))) w := by
  have hb := H.all j _ hj
  exact H.upd hj (Keep.refl _ _) ⟨hb.1, hb.2.1, fun q hq => by
    rcases List.mem_append.1 hq with hq | hq
    · exact h q hq S hb.2.2
    · exact hb.2.2 q hq⟩ (fun k hk => .inl hk) (fun k hk => .inl hk) (fun k hk => hb.1 k hk)
theorem Heap.bagRd (H : Heap w0 its w) (hj : its[j]? = some (It.bag S L)) {A : Option Addr} {cs : List Value} (hq : (A, cs) ∈ L) : Rd w w0.heap.size w.heap.size A cs := by
  have hb := H.all j _ hj
  intro hn
  obtain ⟨b, o, ha, h1, h2, h3⟩ := hb.2.2 _ hq hn
  exact ⟨b, o, ha, hb.1 b h2, h1, h3⟩
end
theorem RdK.drop {w : World} {ok : Nat → Prop} {A : Option Addr} {cs : List Value} (h : RdK w ok A cs) (k : Nat) : RdK w ok (A.map (·.add k)) (cs.drop k) := fun hn => by
  obtain ⟨b, o, e, h1, h2, h3⟩ := h (fun e => hn (by rw [e, List.drop_nil]))
  refine ⟨b, o + k, by rw [e]; simp [add_lit], h1, h2, fun j u hu => ?_⟩
  rw [List.getElem?_drop] at hu
  rw [Nat.add_assoc]
  exact h3 _ u hu
theorem RdK.from_ {w : World} {ok : Nat → Prop} {n c k : Nat} {A : Option Addr} {cs : List Value} (h : RdK w ok A cs) (hl : cs.length = n) (hk : k ≤ n) (hc : n ≤ c) : RdK w ok (shiftA A c k 1) (cs.drop k) := by
  unfold shiftA
  by_cases e : c = k
  · rw [List.drop_eq_nil_of_le (by omega)]
    exact RdK.nil
  · rw [if_neg e, Nat.mul_one]
    exact h.drop _
theorem run_sl_upto {P : Program} (w : World) (t e : TypeId) (inf : TypeInfo) (ht : P.underlying t = some (.slice e)) (hi : P.info? e = some inf) (hs : inf.size = 1) (A : Option Addr) (n c m : Nat) (M : Int) (hM : M = (m : Int)) (hm : m ≤ c) :
    (Instr.slice t (.slice A n c) none (some (.int .i64 M)) none).run P w = .ok (.slice A m c) w := by
  subst hM
  have hb : (Instr.sliceBounds true n c none (some (.int .i64 (m : Int))) none).run P w = .ok (0, m, c) w := by
    simp [Instr.sliceBounds, run_sliceBound (P := P) w .i64 (m : Int) c .sliceAcap (by omega) (by omega)]
  cases A with
  | none => simp [Instr.slice, run_underlying ht, hb, sizeOf, typeInfo, hi, hs]
  | some a => simp [Instr.slice, run_underlying ht, hb, sizeOf, typeInfo, hi, hs, Addr.add]
theorem ints_take (l : List Int) (k : Nat) : (ints l).take k = ints (l.take k) := by simp [ints]
theorem ints_drop (l : List Int) (k : Nat) : (ints l).drop k = ints (l.drop k) := by simp [ints]
abbrev errV (q : Int) : Value := .iface 39 (.int .i64 q)
set_option maxRecDepth 100000 in
theorem sneed_true (w : World) (q : Int) : Calls Tryz.prog 59 #[.bool true, .int .i64 q] w fun e w' => e = .returned (.tuple #[]) ∧ w' = w := by
  go_enter Tryz.func59, Tryz.ntmps59
  go_wp2_with fail
  go_end0
  exact ⟨rfl, rfl⟩
set_option maxRecDepth 100000 in
theorem sneed_false (w : World) (q : Int) : Calls Tryz.prog 59 #[.bool false, .int .i64 q] w fun e w' => e = .panicked [{ v := errV q, recovered := false }] ∧ w' = w := by
  go_enter Tryz.func59, Tryz.ntmps59
  go_wp2_with fail
  exact ⟨rfl, rfl, rfl⟩
set_option maxRecDepth 100000 in
set_option maxHeartbeats 4000000 in
theorem take_bad {w0 w : World} {its : List It} (H : Heap w0 its w) (wb : Nat) (fA : Option Addr) (fn fc : Nat) (av : Value) (i m : Nat) (hi : its[i]? = some (.box wb [.slice fA fn fc, av])) (hm : fn < m) (hM : m ≤ 1000000000) :
    Calls Tryz.prog 97 #[.pointer (some ⟨wb, 0, none⟩), .int .i64 (m : Int)] w fun e w' => e = .panicked [{ v := errV 17, recovered := false }] ∧ Heap w0 its w' := by
  have HH := Lib.hid H
  have HI := Lib.hid hi
  clear H hi
  have hd : decide (m ≤ fn) = false := by simp; omega
  go_enter Tryz.func97, Tryz.ntmps97
  go_wp2_with (refine shl_load1 HH.out rfl rfl rfl (i) (HI.out) rfl (by decide +kernel) ?_)
  refine (sneed_false w 17).mono ?_
  rintro e w3 ⟨rfl, rfl⟩
  exact ⟨rfl, rfl, HH.out⟩
set_option maxRecDepth 100000 in
set_option maxHeartbeats 4000000 in
theorem take_ok {w0 w : World} {its : List It} (H : Heap w0 its w) (wb : Nat) (fA : Option Addr) (fn fc : Nat) (av : Value) (i j m : Nat) (hij : i ≠ j) (hi : its[i]? = some (.box wb [.slice fA fn fc, av])) (S : Nat → Prop) (L : RdL) (hj : its[j]? = some (It.bag S L)) (fs : List Int) (hf : (fA, ints fs) ∈ L) (hn : fn = fs.length) (hc : fn ≤ fc) (hm : m ≤ fn) (hM : fn ≤ 100000000) :
    Calls Tryz.prog 97 #[.pointer (some ⟨wb, 0, none⟩), .int .i64 (m : Int)] w fun e w' => ∃ A c fA' S', e = .returned (.slice A m c) ∧ m ≤ c ∧ c ≤ maxLen ∧ Heap w0 ((its.set j (It.bag S' ((fA', ints (fs.drop m)) :: (A, ints (fs.take m)) :: L))).set i (.box wb [.slice fA' (fn - m) (fc - m), av])) w' := by
  obtain ⟨i0, hi0, hz0, hz1, hz2⟩ := info_parts infoI
  have HH := Lib.hid H
  have HI := Lib.hid hi
  have HJ := Lib.hid hj
  have HF := Lib.hid hf
  have Hn := Lib.hid hn
  have HIJ := Lib.hid hij
  clear H hi hj hf hn hij
  have hd : decide (m ≤ fn) = true := by simp; omega
  have hs1 := fun W => run_sl_upto (P := Tryz.prog) W 29 3 i0 Tryz.underlying29 hi0 hz1 fA fn fc m _ rfl (by omega)
  have hs2 := fun W => run_slice_from (P := Tryz.prog) W 29 3 i0 1 Tryz.underlying29 hi0 hz1 fA fn fc m _ rfl hm
  go_enter Tryz.func97, Tryz.ntmps97
  go_wp2_with (refine shl_load1 HH.out rfl rfl rfl (i) (HI.out) rfl (by decide +kernel) ?_)
  refine (sneed_true w 17).mono ?_
  rintro e w3 ⟨rfl, rfl⟩
  go_wp2_with (refine shl_load1 HH.out rfl rfl rfl (i) (HI.out) rfl (by decide +kernel) ?_)
  have hrd := (HH.out.bagRd HJ.out HF.out).m0
  refine (iclone_any w3 fA m fc (fs.take m) (by rw [List.length_take, ← Hn.out]; omega) (by have := hrd.take m; rwa [ints_take] at this) (by omega)).mono ?_
  rintro e w4 ⟨v, rfl, hown, e4⟩
  obtain ⟨A, c, rfl, k1, k2, _⟩ := own_form hown
  obtain ⟨S', H2⟩ := HH.out.bagExt HJ.out e4 (L2 := [(A, ints (fs.take m))]) (fun q hq => by
    simp only [List.mem_cons, List.not_mem_nil, or_false] at hq
    subst hq
    exact Rd.of_own hown)
  have HJ2 := Lib.hid (List.getElem?_set_self (a := It.bag S' ([(A, ints (fs.take m))] ++ L)) (List.getElem?_eq_some_iff.1 HJ.out).1)
  have H3 := H2.bagMore (L2 := [(shiftA fA fc m 1, ints (fs.drop m))]) HJ2.out (fun q hq ok hok => by
    simp only [List.mem_cons, List.not_mem_nil, or_false] at hq
    subst hq
    have h1 := hok (fA, ints fs) (List.mem_append_right _ HF.out)
    have h2 := h1.from_ (n := fn) (c := fc) (k := m) (by rw [ints_length, Hn.out]) hm hc
    rwa [ints_drop] at h2)
  rw [List.set_set] at H3
  have HI2 := Lib.hid (show (its.set j (It.bag S' ((shiftA fA fc m 1, ints (fs.drop m)) :: (A, ints (fs.take m)) :: L)))[i]? = some (.box wb [.slice fA fn fc, av]) from (List.getElem?_set_ne (Ne.symm HIJ.out)).trans HI.out)
  have HH3 := Lib.hid (show Heap w0 (its.set j (It.bag S' ((shiftA fA fc m 1, ints (fs.drop m)) :: (A, ints (fs.take m)) :: L))) w4 from H3)
  clear HH hown e4 H2 H3 hrd HJ2
  have HH := HH3
  clear HH3
  go_wp2_with (first | (refine shl_load1 HH.out rfl rfl rfl (i) (HI2.out) rfl (by decide +kernel) ?_) | (refine shl_store1 HH.out rfl rfl rfl rfl (i) (HI2.out) rfl rfl (by kernel_rfl) ?_; clear HH; intro wS HHS; have HH := Lib.hid HHS; clear HHS))
  go_ret
  exact ⟨A, c, _, S', rfl, k1, k2, HH.out⟩
end Go.Proofs.YtfongpdeflfioaaGreat
/- store's right, uber.Slot. -/
namespace Go.Proofs.YtfongpdeflfioaaGreat
open Go.RowKit Go.Maps Go.Sort Go.Shelf
set_option linter.unusedVariables false
set_option linter.unusedSimpArgs false
theorem infoOb : (Tryz.prog.info? 35).map (fun i => (i.zero, i.size, i.bytes)) = some (some (.agg #[.string ⟨#[]⟩, .slice none 0 0, .slice none 0 0]), 3, 64) := by kernel_rfl
theorem zerosI_eq (m : Nat) : madeCells (Value.int .i64 0).cells m = (ints (List.replicate m 0)).toArray := by
  apply Array.toList_inj.1
  show (madeCells #[Value.int .i64 0] m).toList = _
  rw [toList_madeCells_one]
  simp [ints]
theorem mk_ints (m : Nat) (hm : m ≤ 1000000000) (u : World) : (Instr.makeSlice 29 (.int .i64 (m : Int)) (.int .i64 (m : Int))).run Tryz.prog u = .ok (.slice (some ⟨u.heap.size, 0, none⟩) m m) (u.alloc (.cells (ints (List.replicate m 0)).toArray 3)) := by
  obtain ⟨i0, hi0, hz0, hz1, hz2⟩ := info_parts infoI
  have h := run_make (P := Tryz.prog) u 29 3 i0 _ Tryz.underlying29 hi0 hz0 .i64 .i64 m m (by omega) (by omega) (by rw [hz2]; omega) (by omega)
  rw [hz1, Int.toNat_natCast, Nat.mul_one, zerosI_eq] at h
  exact h
theorem bit_and (t : Int) (h0 : 0 ≤ t) (h1 : t ≤ 9223372036854775807) : bits .and .i64 t 1 = t % 2 := by
  obtain ⟨n, rfl⟩ : ∃ n : Nat, t = (n : Int) := ⟨t.toNat, by omega⟩
  have e1 : (BitVec.ofInt 64 (n : Int)).toNat = n := by
    rw [BitVec.ofInt_natCast, BitVec.toNat_ofNat]; exact Nat.mod_eq_of_lt (by omega)
  have e2 : (BitVec.ofInt 64 (1 : Int)).toNat = 1 := by decide
  show IntKind.i64.wrap ((BitVec.ofInt 64 (n : Int) &&& BitVec.ofInt 64 (1 : Int)).toNat : Int) = _
  rw [BitVec.toNat_and, e1, e2, Nat.and_one_is_mod, IntWalk.i64_in _ (by omega)]
  omega
def longD (x : Ob) : Bool := decide (65536 < x.data.n)
set_option maxRecDepth 100000 in
set_option maxHeartbeats 4000000 in
theorem slong_any (w : World) (x : Ob) : Calls Tryz.prog 95 #[.agg x.cells.toArray] w fun e w' => e = .returned (.bool (longD x)) ∧ Ext w w' := by
  have HV := Lib.hid (show longD x = decide ((65536 : Int) < (x.data.n : Int)) by unfold longD; rw [decide_eq_decide]; omega)
  generalize longD x = V at *
  obtain ⟨key, ⟨dA, dn, dc, dx⟩, ⟨lA, ln, lc, lx⟩⟩ := x
  simp only [Ob.cells, Sl.val] at *
  go_enter Tryz.func95, Tryz.ntmps95
  go_upto_region 1 with fail
  generalize hwH : World.alloc w _ = w1; have HH := Lib.hid (Heap.one hwH); clear hwH
  go_wp2_with (refine shl_load1 HH.out rfl rfl rfl 0 rfl rfl (by decide +kernel) ?_)
  go_ret
  exact ⟨retB HV.out.symm, HH.out.ext⟩
theorem call_slong : ∀ args w, (callFunc 95 args).run Tryz.prog w = .ok (.enter 95 args) w := callF Tryz.func95 (by kernel_rfl) rfl
set_option maxRecDepth 100000 in
set_option maxHeartbeats 4000000 in
theorem slot_any (w : World) (u : Ub) (h : u.wf) (h0 : 0 ≤ u.txg) : Calls Tryz.prog 60 #[.agg u.cells.toArray] w fun e w' => e = .returned (.int .i64 (u.txg % 2)) ∧ Ext w w' := by
  obtain ⟨t, f, o⟩ := u
  simp only [Ub.cells] at *
  go_enter Tryz.func60, Tryz.ntmps60
  go_upto_region 1 with fail
  generalize hwH : World.alloc w _ = w1; have HH := Lib.hid (Heap.one hwH); clear hwH
  go_wp2_with (refine shl_load1 HH.out rfl rfl rfl 0 rfl rfl (by decide +kernel) ?_)
  go_ret
  exact ⟨retI (bit_and _ h0 (by have := h.t1; exact this)), HH.out.ext⟩
def strip (x : Ob) : ByteArray × List UInt8 × List Int := (x.key, x.data.xs, x.locs.xs)
def idxS (l : List (ByteArray × List UInt8 × List Int)) : List ByteArray := l.flatMap fun x => [x.1, num8 (x.2.1.length : Int), ⟨(numsO x.2.2).toArray⟩]
theorem idxT_strip : ∀ (l : List Ob), (∀ x ∈ l, x.data.n = x.data.xs.length) → idxT l = idxS (l.map strip)
  | [], _ => rfl
  | x :: l, h => by
    have h1 := idxT_strip l fun y hy => h y (List.mem_cons_of_mem _ hy)
    rw [idxT] at h1 ⊢
    rw [List.flatMap_cons, h1, h x (List.mem_cons_self ..)]
    rfl
def plcS (l : List Ob) : List (ByteArray × List UInt8 × List Int) := l.map fun x => (x.key, x.data.xs, List.replicate (cntP x.data.n) 0)
def rtE (s : Sto) (l : List Ob) : Int :=
  if 256 < l.length then 3 else if risB l = false then 31 else if l.any longD = true then 5 else if wE (idxS (plcS l)) ≠ 0 ∨ 65536 < (wB (idxS (plcS l))).length then 5 else if 1099511627776 ≤ s.ub.txg then 15 else 0
structure PlIn (ls : List Ob) (L : RdL) (o : Ob) : Prop where
  src : ∃ x ∈ ls, o.key = x.key ∧ o.data = x.data
  len : o.locs.n = o.locs.xs.length
  le : o.locs.n ≤ o.locs.c
  cap : o.locs.c ≤ maxLen
  mem : (o.locs.A, ints o.locs.xs) ∈ L
  wf : ∀ y ∈ o.locs.xs, (Lit.int .i64 y).wf = true
theorem PlIn.more {ls : List Ob} {L : RdL} {o : Ob} (h : PlIn ls L o) {L2 : RdL} (hL : ∀ q ∈ L, q ∈ L2) : PlIn ls L2 o := ⟨h.src, h.len, h.le, h.cap, hL _ h.mem, h.wf⟩
theorem PlIn.at_ {w0 w : World} {its : List It} {j : Nat} {S : Nat → Prop} {L : RdL} {ls : List Ob} {o : Ob} (h : PlIn ls L o) (hl : ∀ x ∈ ls, Ob.At w0 0 w0.heap.size x) (H : Heap w0 its w) (hj : its[j]? = some (It.bag S L)) : Ob.At w 0 w.heap.size o := by
  obtain ⟨x, hx, h1, h2⟩ := h.src
  refine ⟨by rw [h1]; exact (hl x hx).key, by rw [h2]; exact Oct.At.on (hl x hx).data H.ext (Nat.le_refl _), ⟨h.len, h.le, h.cap, ?_, h.wf⟩⟩
  rw [ints_flat]
  exact (H.bagRd hj h.mem).m0
set_option maxRecDepth 100000 in
set_option maxHeartbeats 8000000 in
theorem right_any (w : World) (s : Sto) (l : Sl Ob) (hl : Sl.At w 0 w.heap.size Ob.cells (Ob.At w 0 w.heap.size) l) : Calls Tryz.prog 52 #[.agg s.cells.toArray, l.val] w fun e w' => e = .returned (.int .i64 (rtE s l.xs)) ∧ Ext w w' := by
  obtain ⟨i0, hi0, hz0, hz1, hz2⟩ := info_parts infoOb
  have hmk := mk_ints
  have HRi := Lib.hid (fun W (hW : Ext w W) => rising_any W l (Sl.At.imp hl (rd_on hW (Nat.le_refl _) _ _) (fun x hx => Ob.At.on hx hW (Nat.le_refl _))))
  have HLo := Lib.hid (fun W (hW : Ext w W) => conb_any W l.A l.n l.c l.xs hl.len (Nat.le_trans hl.le (Nat.le_trans hl.cap (by decide))) (Rd.at hl.rd hW (Nat.le_refl _)) longD (.func (.func 95) #[] #[]) 95 #[] rfl call_slong (fun x _ w2 _ => slong_any w2 x))
  have HV := Lib.hid (show rtE s l.xs = if 256 < l.xs.length then 3 else if risB l.xs = false then 31 else if l.xs.any longD = true then 5 else if wE (idxS (plcS l.xs)) ≠ 0 ∨ 65536 < (wB (idxS (plcS l.xs))).length then 5 else if 1099511627776 ≤ s.ub.txg then 15 else 0 from rfl)
  have HL := Lib.hid hl
  clear hl
  generalize rtE s l.xs = V at *
  obtain ⟨⟨⟨sA, sn, sc, sx⟩, ⟨wA, wn, wc, wx⟩⟩, ⟨ut, uf, uo⟩, ⟨oA, on, oc, ox⟩, ⟨iA, im, ic, ix⟩⟩ := s
  obtain ⟨lA, n, lc, xs⟩ := l
  have Hn := Lib.hid (show n = xs.length from HL.out.len)
  simp only [Sto.cells, Sl.val] at *
  by_cases h1 : 256 < n
  · have HV2 := Lib.hid (show V = 3 by rw [HV.out, if_pos (by rw [← Hn.out]; exact h1)])
    go_enter Tryz.func52, Tryz.ntmps52
    go_upto_region 1 with fail
    generalize hwH : World.alloc w _ = w1; have HH := Lib.hid (Heap.one hwH); clear hwH
    go_wp2_with fail
    go_ret
    exact ⟨retI HV2.out.symm, HH.out.ext⟩
  cases h2 : risB xs
  · have HV2 := Lib.hid (show V = 31 by rw [HV.out, if_neg (by rw [← Hn.out]; exact h1), if_pos h2])
    rw [h2] at HRi
    go_enter Tryz.func52, Tryz.ntmps52
    go_upto_region 1 with fail
    generalize hwH : World.alloc w _ = w1; have HH := Lib.hid (Heap.one hwH); clear hwH
    go_wp2_with (go_at_call 41; (with_reducible refine (HRi.out _ HH.out.ext).mono ?_); rintro e wC ⟨rfl, eC⟩; have HHn := Lib.hid (HH.out.later eC); clear HH eC; have HH := HHn; clear HHn)
    go_ret
    exact ⟨retI HV2.out.symm, HH.out.ext⟩
  rw [h2] at HRi
  cases h3 : xs.any longD
  · rw [h3] at HLo
    have HV3 := Lib.hid (show V = if wE (idxS (plcS xs)) ≠ 0 ∨ 65536 < (wB (idxS (plcS xs))).length then 5 else if 1099511627776 ≤ ut then 15 else 0 by rw [HV.out, if_neg (by rw [← Hn.out]; exact h1), if_neg (by rw [h2]; decide), if_neg (by rw [h3]; decide)])
    have HD := Lib.hid (fun x (hx : x ∈ xs) => show x.data.n ≤ 65536 by
      cases hb : longD x
      · simpa [longD] using hb
      · rw [List.any_eq_true.2 ⟨x, hx, hb⟩] at h3; cases h3)
    go_enter Tryz.func52, Tryz.ntmps52
    go_upto_region 1 with fail
    generalize hwH : World.alloc w _ = w1; have HH := Lib.hid (Heap.one hwH); clear hwH
    go_upto_region 8 with (first | (go_at_call 41; (with_reducible refine (HRi.out _ HH.out.ext).mono ?_); rintro e wC ⟨rfl, eC⟩; have HHn := Lib.hid (HH.out.later eC); clear HH eC; have HH := HHn; clear HHn) | (go_at_call 42; (with_reducible refine (HLo.out _ HH.out.ext).mono ?_); rintro e wC ⟨rfl, eC⟩; have HHn := Lib.hid (HH.out.later eC); clear HH eC; have HH := HHn; clear HHn))
    have HH2 := Lib.hid ((HH.out.bag0).row0 (e := 35) (size := 3))
    clear HH HV
    have HH := HH2
    clear HH2
    go_wp2_with fail
    go_loopw [5, 23] (fun v i wr => ∃ (k : Nat) (os : List Ob) (A : Option Addr) (c : Nat) (S : Nat → Prop) (L : RdL), k ≤ n ∧ i = .int .i64 (k : Int) ∧ v = .slice A os.length c ∧ Hid (os.map strip = plcS (xs.take k)) ∧ Hid (∀ o ∈ os, PlIn xs L o) ∧
      Hid (Heap w [.row 35 3 (.slice A os.length c) os.length (os.flatMap Ob.cells), It.bag S L, .box w.heap.size [.slice sA sn sc, .slice wA wn wc, .int .i64 ut, .int .i64 uf, .int .i64 uo, .slice oA on oc, .slice iA im ic]] wr)) (fun _ i _ => n - (intOf i).toNat)
    case atStart => exact ⟨0, [], none, 0, _, [], Nat.zero_le _, rfl, rfl, Lib.hid rfl, Lib.hid (by simp), HH⟩
    case round =>
      clear HH
      obtain ⟨k, os, A, c, S, L, hk, rfl, rfl, HS, HP, HH⟩ := hrel
      have HOl := Lib.hid (show os.length = k by have h := congrArg List.length HS.out; rw [List.length_map, plcS, List.length_map, List.length_take, ← Hn.out] at h; omega)
      have hol : os.length ≤ 256 := by rw [HOl.out]; omega
      by_cases hlt : k < n
      · have l1 : k < xs.length := by rw [← Hn.out]; exact hlt
        obtain ⟨b1, o1, rfl, hb1, f0, f1, f2⟩ := rd_ob (HL.out.rd.ext HH.out.ext (Nat.le_refl _)) l1
        have HT := Lib.hid (show plcS (xs.take (k + 1)) = plcS (xs.take k) ++ [(xs[k].key, xs[k].data.xs, List.replicate (cntP xs[k].data.n) 0)] by rw [List.take_succ_eq_append_getElem l1, plcS, plcS, List.map_append]; rfl)
        have HXm := Lib.hid (List.getElem_mem l1)
        have HXd := HD.out _ (List.getElem_mem l1)
        generalize xs[k] = x at *
        have HXe := Lib.hid (show x.data.val = .slice x.data.A x.data.n x.data.c from rfl)
        rw [HXe.out] at f1
        have hcp : cntP x.data.n ≤ 1261 := by unfold cntP; omega
        go_upto_region 11 with (first | (refine shl_store (HH.out.alloc _ _) sizeOb rfl rfl rfl rfl 0 rfl rfl rfl rfl ?_; clear HH; intro wS HHS; have HH := Lib.hid HHS; clear HHS))
        obtain ⟨tb, htb⟩ : ∃ b, b = wr.heap.size := ⟨_, rfl⟩
        rw [← htb] at HH ⊢
        have HHd := Lib.hid (show Heap w [.box tb [.string x.key, .slice x.data.A x.data.n x.data.c, x.locs.val], .row 35 3 (.slice A os.length c) os.length (os.flatMap Ob.cells), It.bag S L, .box w.heap.size [.slice sA sn sc, .slice wA wn wc, .int .i64 ut, .int .i64 uf, .int .i64 uo, .slice oA on oc, .slice iA im ic]] wS.drew from HH.out.drew)
        clear HH htb f0 f1 f2
        refine wp_region_held_drew (S := Heap w [.box tb [.string x.key, .slice x.data.A x.data.n x.data.c, x.locs.val]]) (by kernel_rfl) (HHd.out.only 0 rfl) (fun hHeld => ?_)
        generalize World.drew wS = wd at *
        refine tS 0 ?_; (try simp only [Act.put, lyA, lyB, lyC])
        refine tS 1 ?_; (try simp only [Act.put, lyA, lyB, lyC])
        refine tG 2 rfl (fun wT hST => sh_run_load1 hST rfl rfl 0 rfl rfl (by kernel_rfl)) hHeld ?_; (try simp only [Act.put, lyA, lyB, lyC])
        refine tS 3 ?_; (try simp only [Act.put, lyA, lyB, lyC])
        refine tG 4 rfl (fun wT hST => sh_run_load1 hST rfl rfl 0 rfl rfl (by kernel_rfl)) hHeld ?_; (try simp only [Act.put, lyA, lyB, lyC])
        refine tS 5 ?_; (try simp only [Act.put, lyA, lyB, lyC])
        refine tG 6 rfl (fun wT hST => sh_run_load1 hST rfl rfl 0 rfl rfl (by kernel_rfl)) hHeld ?_; (try simp only [Act.put, lyA, lyB, lyC])
        refine tS 7 ?_; (try simp only [Act.put, lyA, lyB, lyC])
        clear hHeld
        refine oS 8 (fun K hK => ?_)
        go_simp
        refine (count_any wd x.data.n (by omega)).mono ?_
        rintro e w2 ⟨rfl, e2⟩
        have HH2 := Lib.hid (HHd.out.later e2)
        clear HHd e2
        go_wp2_with fail
        refine hK.out _ _ ((HH2).out.only 0 rfl) (fun hHeld => ?_); clear hK K; (try simp only [Act.put, lyA, lyB, lyC]); clear hHeld
        refine oS 9 (fun K hK => ?_)
        have hmk2 := mk_ints (cntP x.data.n) (by omega)
        clear hmk
        go_simp
        generalize hwA : World.alloc w2 _ = w3
        obtain ⟨S3, H3⟩ := HH2.out.bagExt (w' := w3) (j := 2) rfl (by rw [← hwA]; exact (Ext.refl _).alloc _) (L2 := [(some ⟨w2.heap.size, 0, none⟩, ints (List.replicate (cntP x.data.n) 0))]) (fun q hq => by
          simp only [List.mem_cons, List.not_mem_nil, or_false] at hq
          subst hq
          rw [← hwA]
          exact (rd_new w2 (ints (List.replicate (cntP x.data.n) 0)).toArray 3).more (Nat.le_refl _) (by rw [World.size_alloc]; exact Nat.le_refl _))
        have HH3 := Lib.hid (show Heap w [.box tb [.string x.key, .slice x.data.A x.data.n x.data.c, x.locs.val], .row 35 3 (.slice A os.length c) os.length (os.flatMap Ob.cells), It.bag S3 ((some ⟨w2.heap.size, 0, none⟩, ints (List.replicate (cntP x.data.n) 0)) :: L), .box w.heap.size [.slice sA sn sc, .slice wA wn wc, .int .i64 ut, .int .i64 uf, .int .i64 uo, .slice oA on oc, .slice iA im ic]] w3 from H3)
        clear HH2 H3 hwA hmk2
        refine hK.out _ _ ((HH3).out.only 0 rfl) (fun hHeld => ?_); clear hK K; (try simp only [Act.put, lyA, lyB, lyC])
        refine tS 10 ?_; (try simp only [Act.put, lyA, lyB, lyC])
        clear hHeld
        refine oS 11 (fun K hK => ?_)
        go_simp
        generalize hwA : World.alloc w3 _ = w4
        have HH4 := Lib.hid (HH3.out.allocE hwA)
        clear HH3 hwA
        refine hK.out _ _ ((HH4).out.only 1 rfl) (fun hHeld => ?_); clear hK K; (try simp only [Act.put, lyA, lyB, lyC]); clear hHeld
        refine oS 12 (fun K hK => ?_)
        refine sh_app (.tmp 27) (.tmp 38) _ rfl Tryz.underlying28 hi0 hz0 hz1 hz2 rfl (by omega) HH4.out 2 rfl rfl (m := 1) rfl rfl (HH4.out.boxRd 0 rfl) (by simp [Value.oneCell']) (by simp only [maxLen]; omega) (by omega) ?_
        rintro v7 w7 hh7 ⟨A7, c7, rfl⟩
        have HH7 := Lib.hid hh7
        clear hh7 HH4
        refine hK.out _ _ ((HH7).out.only 1 rfl) (fun hHeld => ?_); clear hK K; (try simp only [Act.put, lyA, lyB, lyC])
        refine tS 13 ?_; (try simp only [Act.put, lyA, lyB, lyC])
        refine wpAnyH_done (by kernel_rfl) ?_ _
        clear hHeld
        go_wp2_with fail
        go_roundw
        case rel =>
          refine ⟨k + 1, os ++ [⟨x.key, x.data, ⟨some ⟨w2.heap.size, 0, none⟩, cntP x.data.n, cntP x.data.n, List.replicate (cntP x.data.n) 0⟩⟩], A7, c7, S3, (some ⟨w2.heap.size, 0, none⟩, ints (List.replicate (cntP x.data.n) 0)) :: L, by omega, by go_num, by rw [List.length_append]; rfl, Lib.hid ?_, Lib.hid (fun o ho => ?_), Lib.hid ?_⟩
          · rw [List.map_append, HS.out, HT.out]; rfl
          · rcases List.mem_append.1 ho with ho | ho
            · exact (HP.out o ho).more (fun q hq => List.mem_cons_of_mem _ hq)
            · simp only [List.mem_singleton] at ho
              subst ho
              exact ⟨⟨x, HXm.out, rfl, rfl⟩, by simp, Nat.le_refl _, by simp only [maxLen]; omega, List.mem_cons_self .., fun y hy => by rw [(List.mem_replicate.1 hy).2]; rfl⟩
          · have h9 := HH7.out.tail.tail
            rw [List.length_append, List.flatMap_append]
            exact h9
        case measure => simp [intOf]; omega
      · obtain rfl : n = k := by omega
        have ht : xs.take n = xs := List.take_of_length_le (by rw [← Hn.out]; exact Nat.le_refl _)
        rw [ht] at HS
        clear ht
        have hat := fun o ho => (HP.out o ho).at_ (fun x hx => HL.out.all x hx) HH.out (j := 1) rfl
        have HI := Lib.hid (index_any wr ⟨A, os.length, c, os⟩ ⟨rfl, (own_form2 (HH.out.rowAt 0 rfl)).1, (own_form2 (HH.out.rowAt 0 rfl)).2, (HH.out.rowRd 0 rfl).m0, hat⟩ (by dsimp only; omega) (fun o ho => by
          obtain ⟨x, hx, h8, h9⟩ := (HP.out o ho).src
          have h10 := List.mem_map_of_mem (f := strip) ho
          rw [HS.out, plcS] at h10
          obtain ⟨z, hz, h11⟩ := List.mem_map.1 h10
          have h12 : List.replicate (cntP z.data.n) 0 = o.locs.xs := congrArg (fun q => q.2.2) h11
          have h13 := HD.out z hz
          rw [(HP.out o ho).len, ← h12, List.length_replicate]
          unfold cntP; omega))
        have HTx := Lib.hid (show idxT os = idxS (plcS xs) by rw [idxT_strip os (fun o ho => (hat o ho).data.len), HS.out])
        rw [HTx.out] at HI
        clear hat
        simp only [Sl.val] at HI
        go_wp2_with fail
        refine HI.out.mono ?_
        rintro e w5 ⟨v5, rfl, hown, e5⟩
        obtain ⟨A5, c5, rfl, _, _, _⟩ := own_form hown
        have HH5 := Lib.hid (HH.out.later e5)
        clear HH hown e5 HI
        have HH := HH5
        clear HH5
        have HWl := wB_len (idxS (plcS xs))
        generalize (wB (idxS (plcS xs))).length = bl at *
        generalize wE (idxS (plcS xs)) = we at *
        by_cases g1 : we = 0
        · subst g1
          by_cases g2 : 65536 < bl
          · have HV4 := Lib.hid (show V = 5 by rw [HV3.out, if_pos (.inr g2)])
            have gd : decide ((65536 : Int) < (bl : Int)) = true := by simp; omega
            go_wp2_with fail
            go_ret
            exact ⟨retI HV4.out.symm, HH.out.ext⟩
          · have gd : decide ((65536 : Int) < (bl : Int)) = false := by simp; omega
            have HV4 := Lib.hid (show V = if 1099511627776 ≤ ut then 15 else 0 by rw [HV3.out, if_neg (by rintro (h | h); exact h rfl; exact g2 h)])
            by_cases g3 : 1099511627776 ≤ ut
            · have HV5 := Lib.hid (show V = 15 by rw [HV4.out, if_pos g3])
              go_wp2_with (refine shl_load1 HH.out rfl rfl rfl 2 rfl rfl (by decide +kernel) ?_)
              go_ret
              exact ⟨retI HV5.out.symm, HH.out.ext⟩
            · have HV5 := Lib.hid (show V = 0 by rw [HV4.out, if_neg g3])
              go_wp2_with (refine shl_load1 HH.out rfl rfl rfl 2 rfl rfl (by decide +kernel) ?_)
              go_ret
              exact ⟨retI HV5.out.symm, HH.out.ext⟩
        · have HV4 := Lib.hid (show V = 5 by rw [HV3.out, if_pos (.inl g1)])
          have gb : (we != 0) = true := by simpa using g1
          go_wp2_with fail
          go_ret
          exact ⟨retI HV4.out.symm, HH.out.ext⟩
  · rw [h3] at HLo
    have HV2 := Lib.hid (show V = 5 by rw [HV.out, if_neg (by rw [← Hn.out]; exact h1), if_neg (by rw [h2]; decide), if_pos h3])
    go_enter Tryz.func52, Tryz.ntmps52
    go_upto_region 1 with fail
    generalize hwH : World.alloc w _ = w1; have HH := Lib.hid (Heap.one hwH); clear hwH
    go_wp2_with (first | (go_at_call 41; (with_reducible refine (HRi.out _ HH.out.ext).mono ?_); rintro e wC ⟨rfl, eC⟩; have HHn := Lib.hid (HH.out.later eC); clear HH eC; have HH := HHn; clear HHn) | (go_at_call 42; (with_reducible refine (HLo.out _ HH.out.ext).mono ?_); rintro e wC ⟨rfl, eC⟩; have HHn := Lib.hid (HH.out.later eC); clear HH eC; have HH := HHn; clear HHn))
    go_ret
    exact ⟨retI HV2.out.symm, HH.out.ext⟩
end Go.Proofs.YtfongpdeflfioaaGreat
