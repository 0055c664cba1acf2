/- The texts Dcd, Spu, Kp, Bag in one file. -/
import Derived.Test.YtfongpdeflfioaaGreatK12
import Derived.Test.YtfongpdeflfioaaGreatK13
import Derived.Test.YtfongpdeflfioaaGreatK7
import Derived.Test.YtfongpdeflfioaaGreatK10
import Derived.Defers
import Derived.Recover
/- bytes.Equal, pages.Decode. -/
namespace Go.Proofs.YtfongpdeflfioaaGreat
open Go.RowKit Go.Maps Go.Sort Go.Shelf
set_option linter.unusedVariables false
set_option linter.unusedSimpArgs false

theorem run_sl_to {P : Program} (w : World) (t e : TypeId) (inf : TypeInfo) (ht : P.underlying t = some (.slice e)) (hi : P.info? e = some inf) (hs : inf.size = 1) (b o n c m : Nat) (M : Int) (hM : M = (m : Int)) (hm : m ≤ c) :
    (Instr.slice t (.slice (some ⟨b, o, none⟩) n c) none (some (.int .i64 M)) none).run P w = .ok (.slice (some ⟨b, o, none⟩) m c) w := by
  subst hM
  have hb : (Instr.sliceBounds true n c none (some (.int .i64 (m : Int))) none).run P w = .ok (0, m, c) w := by
    simp [Instr.sliceBounds, run_sliceBound (P := P) w .i64 (m : Int) c .sliceAcap (by omega) (by omega)]
  simp [Instr.slice, run_underlying ht, hb, sizeOf, typeInfo, hi, hs, add_lit]
theorem run_sl_mid {P : Program} (w : World) (t e : TypeId) (inf : TypeInfo) (ht : P.underlying t = some (.slice e)) (hi : P.info? e = some inf) (hs : inf.size = 1) (b o n c k m : Nat) (K M : Int) (hK : K = (k : Int)) (hM : M = (m : Int)) (hkm : k ≤ m) (hm : m ≤ c) (hkc : k < c) :
    (Instr.slice t (.slice (some ⟨b, o, none⟩) n c) (some (.int .i64 K)) (some (.int .i64 M)) none).run P w = .ok (.slice (some ⟨b, o + k, none⟩) (m - k) (c - k)) w := by
  subst hK
  subst hM
  have hb : (Instr.sliceBounds true n c (some (.int .i64 (k : Int))) (some (.int .i64 (m : Int))) none).run P w = .ok (k, m, c) w := by
    simp [Instr.sliceBounds, run_sliceBound (P := P) w .i64 (m : Int) c .sliceAcap (by omega) (by omega), run_sliceBound (P := P) w .i64 (k : Int) m .sliceB (by omega) (by omega)]
  have hne : ¬ c = k := by omega
  simp [Instr.slice, run_underlying ht, hb, sizeOf, typeInfo, hi, hs, hne, add_lit]
theorem toArray_inj {a b : List UInt8} : ((⟨a.toArray⟩ : ByteArray).toList == (⟨b.toArray⟩ : ByteArray).toList) = decide (a = b) := by
  rw [Lib.toList_data, Lib.toList_data]
  rw [Bool.eq_iff_iff]
  simp
set_option maxRecDepth 100000 in
set_option maxHeartbeats 1000000 in
theorem bequal_any (w : World) (A B : Option Addr) (n c m d : Nat) (a b : List UInt8) (hn : n = a.length) (hm : m = b.length) (hA : Rd w 0 w.heap.size A (bytes a)) (hB : Rd w 0 w.heap.size B (bytes b)) :
    Calls Tryz.prog 78 #[.slice A n c, .slice B m d] w fun e w' => e = .returned (.bool (decide (a = b))) ∧ Ext w w' := by
  have c1 : (convert 33 9 (.slice A n c)).run Tryz.prog w = .ok (.string ⟨a.toArray⟩) w := run_conv_str w _ _ 5 Tryz.underlying33 Tryz.underlying5 Tryz.underlying9 _ _ A n c a hn hA
  have c2 : (convert 33 9 (.slice B m d)).run Tryz.prog w = .ok (.string ⟨b.toArray⟩) w := run_conv_str w _ _ 5 Tryz.underlying33 Tryz.underlying5 Tryz.underlying9 _ _ B m d b hm hB
  have HT := Lib.hid (toArray_inj (a := a) (b := b))
  generalize decide (a = b) = V at *
  generalize (⟨a.toArray⟩ : ByteArray) = sa at *
  generalize (⟨b.toArray⟩ : ByteArray) = sb at *
  clear hA hB hn hm
  go_enter Tryz.func78, Tryz.ntmps78
  go_wp2_with fail
  go_ret
  exact ⟨retB (by rw [← HT.out]), Ext.refl _⟩

/-- what a sector says -/
def dcN (s : List UInt8) : Nat := val (s.take 2)
def dcX (s : List UInt8) : Nat := val ((s.drop 2).take 2)
def dcD (s : List UInt8) : List UInt8 := (s.drop 4).take (dcN s)
def dcOk (s : List UInt8) : Bool := decide (s.length = 64) && decide (dcN s ≤ 52) && decide (pgE (dcD s) (dcX s : Int) = 0) && decide (s = pgB (dcD s) (dcX s : Int))
/-- what pages.Decode tells -/
def DcOut (w : World) (s : List UInt8) (e : Ending) (w' : World) : Prop :=
  ∃ v n, e = .returned (.tuple #[v, .int .i64 (if dcOk s = true then (dcX s : Int) else 0), .int .i64 (if dcOk s = true then 0 else 21)]) ∧ w'.ownsRow w.heap.size 5 1 v n (bytes (if dcOk s = true then dcD s else [])) ∧ Ext w w'
theorem dcOut_bad {w w' : World} {s : List UInt8} (h : dcOk s = false) (e : Ext w w') : DcOut w s (.returned (.tuple #[.slice none 0 0, .int .i64 0, .int .i64 21])) w' := by
  unfold DcOut
  rw [h]
  exact ⟨_, 0, rfl, World.ownsRow_nil _ _ _ _, e⟩
theorem num2 (l : List UInt8) (h : l.length = 2) : numV l = (val l : Int) := by
  have := val_lt l
  rw [h] at this
  unfold numV
  rw [if_neg (by omega), if_neg (by omega), if_neg (by omega)]
set_option maxRecDepth 100000 in
set_option maxHeartbeats 8000000 in
theorem pgdec_any (w : World) (A : Option Addr) (n c : Nat) (s : List UInt8) (hn : n = s.length) (hr : Rd w 0 w.heap.size A (bytes s)) (hnc : n ≤ c) (hm : c ≤ maxLen) :
    Calls Tryz.prog 37 #[.slice A n c] w (DcOut w s) := by
  obtain ⟨i0, hi0, hz0, hz1, hz2⟩ := info_parts info5
  simp only [maxLen] at hm
  have Hn := Lib.hid hn
  have HR := Lib.hid hr
  have HO := Lib.hid (show dcOk s = (decide (s.length = 64) && decide (dcN s ≤ 52) && decide (pgE (dcD s) (dcX s : Int) = 0) && decide (s = pgB (dcD s) (dcX s : Int))) from rfl)
  by_cases h1 : n = 64
  · obtain ⟨b, o, rfl, hb1, hb2, hcs⟩ := hr (fun e => by have := congrArg List.length e; rw [bytes_length, ← hn] at this; simp at this; omega)
    clear hr hcs hb1 hb2 hn
    have HT1 := Lib.hid (show Rd w 0 w.heap.size (some ⟨b, o, none⟩) (bytes (s.take 2)) by rw [← bytes_take]; exact HR.out.take 2)
    have HT2 := Lib.hid (show Rd w 0 w.heap.size (some ⟨b, o + 2, none⟩) (bytes ((s.drop 2).take 2)) by rw [← bytes_take, ← bytes_drop]; exact (HR.out.step 2).take 2)
    have HL := Lib.hid (show s.length = 64 by rw [← Hn.out]; exact h1)
    have HN1 := Lib.hid (show numV (s.take 2) = (dcN s : Int) from num2 _ (by rw [List.length_take, HL.out]; rfl))
    have HN2 := Lib.hid (show numV ((s.drop 2).take 2) = (dcX s : Int) from num2 _ (by rw [List.length_take, List.length_drop, HL.out]; rfl))
    have hx : dcX s < 65536 := by
      have := val_lt ((s.drop 2).take 2)
      rw [List.length_take, List.length_drop, HL.out] at this
      exact this
    have hN : dcN s < 65536 := by
      have := val_lt (s.take 2)
      rw [List.length_take, HL.out] at this
      exact this
    have HC1 := Lib.hid (fun W (hW : Ext w W) => number_any W (some ⟨b, o, none⟩) 2 c 0 W.heap.size (s.take 2) (by rw [List.length_take, HL.out]; rfl) (by decide) (Rd.at HT1.out hW (Nat.le_refl _)) (Nat.le_refl _))
    have HC2 := Lib.hid (fun W (hW : Ext w W) => number_any W (some ⟨b, o + 2, none⟩) 2 (c - 2) 0 W.heap.size ((s.drop 2).take 2) (by rw [List.length_take, List.length_drop, HL.out]; rfl) (by decide) (Rd.at HT2.out hW (Nat.le_refl _)) (Nat.le_refl _))
    rw [HN1.out] at HC1
    rw [HN2.out] at HC2
    have hs1 := fun W => run_sl_to (P := Tryz.prog) W 33 5 i0 Tryz.underlying33 hi0 hz1 b o n c 2 2 rfl (by omega)
    have hs2 := fun W => run_sl_mid (P := Tryz.prog) W 33 5 i0 Tryz.underlying33 hi0 hz1 b o n c 2 4 2 4 rfl rfl (by omega) (by omega) (by omega)
    clear HN1 HN2 HT1 HT2
    generalize numE (s.take 2) = E1 at *
    generalize numE ((s.drop 2).take 2) = E2 at *
    obtain ⟨nn, hnn⟩ : ∃ nn, nn = dcN s := ⟨_, rfl⟩
    obtain ⟨xx, hxx⟩ : ∃ xx, xx = dcX s := ⟨_, rfl⟩
    rw [← hnn] at HC1 hN
    rw [← hxx] at HC2 hx
    have HNN := Lib.hid hnn
    have HXX := Lib.hid hxx
    clear hnn hxx
    subst h1
    go_enter Tryz.func37, Tryz.ntmps37
    by_cases h2 : 52 < nn
    · have HB := Lib.hid (show dcOk s = false by rw [HO.out, ← HNN.out]; simp; omega)
      go_wp2_with (first | (go_at_call 79; refine (HC1.out _ (by (repeat (first | exact Below.refl _ _ | exact Ext.refl _ | assumption | refine Below.drew ?_ | refine below_drewN ?_ _ | refine below_alloc ?_ (by first | exact Nat.le_refl _ | assumption | (simp; done) | omega | (simp; omega)) _ | refine below_ext ?_ (by assumption) (by first | exact Nat.le_refl _ | assumption | (simp; done) | omega | (simp; omega)) | refine Ext.drew ?_ | refine Ext.drewN ?_ _ | refine Ext.alloc ?_ _ | refine Ext.setCell ?_ (by first | assumption | (simp; done) | (simp; omega)) _ | refine Below.setCell ?_ (by first | assumption | (simp; done) | (simp; omega)) _ | refine Ext.trans ?_ (by assumption))))).mono ?_; clear HC1; rintro e w1 ⟨rfl, e1⟩) | (go_at_call 79; refine (HC2.out _ (by (repeat (first | exact Below.refl _ _ | exact Ext.refl _ | assumption | refine Below.drew ?_ | refine below_drewN ?_ _ | refine below_alloc ?_ (by first | exact Nat.le_refl _ | assumption | (simp; done) | omega | (simp; omega)) _ | refine below_ext ?_ (by assumption) (by first | exact Nat.le_refl _ | assumption | (simp; done) | omega | (simp; omega)) | refine Ext.drew ?_ | refine Ext.drewN ?_ _ | refine Ext.alloc ?_ _ | refine Ext.setCell ?_ (by first | assumption | (simp; done) | (simp; omega)) _ | refine Below.setCell ?_ (by first | assumption | (simp; done) | (simp; omega)) _ | refine Ext.trans ?_ (by assumption))))).mono ?_; clear HC2; rintro e w2 ⟨rfl, e2⟩))
      go_ret3
      exact dcOut_bad HB.out (e1.trans e2)
    · have HD := Lib.hid (show Rd w 0 w.heap.size (some ⟨b, o + 4, none⟩) (bytes (dcD s)) by rw [dcD, ← bytes_take, ← bytes_drop]; exact (HR.out.step 4).take _)
      have HDl := Lib.hid (show nn = (dcD s).length by rw [dcD, List.length_take, List.length_drop, HL.out, ← HNN.out]; omega)
      rw [← HNN.out, ← HXX.out] at HO
      have HOut := Lib.hid (show ∀ v m w', dcOk s = true → w'.ownsRow w.heap.size 5 1 v m (bytes (dcD s)) → Ext w w' → DcOut w s (.returned (.tuple #[v, .int .i64 (xx : Int), .int .i64 0])) w' from fun v m w' h1 h2 h3 => by
        unfold DcOut
        rw [h1, ← HXX.out]
        exact ⟨v, m, rfl, h2, h3⟩)
      generalize dcD s = D at *
      go_wp2_with (first | (go_at_call 79; refine (HC1.out _ (by (repeat (first | exact Below.refl _ _ | exact Ext.refl _ | assumption | refine Below.drew ?_ | refine below_drewN ?_ _ | refine below_alloc ?_ (by first | exact Nat.le_refl _ | assumption | (simp; done) | omega | (simp; omega)) _ | refine below_ext ?_ (by assumption) (by first | exact Nat.le_refl _ | assumption | (simp; done) | omega | (simp; omega)) | refine Ext.drew ?_ | refine Ext.drewN ?_ _ | refine Ext.alloc ?_ _ | refine Ext.setCell ?_ (by first | assumption | (simp; done) | (simp; omega)) _ | refine Below.setCell ?_ (by first | assumption | (simp; done) | (simp; omega)) _ | refine Ext.trans ?_ (by assumption))))).mono ?_; clear HC1; rintro e w1 ⟨rfl, e1⟩) | (go_at_call 79; refine (HC2.out _ (by (repeat (first | exact Below.refl _ _ | exact Ext.refl _ | assumption | refine Below.drew ?_ | refine below_drewN ?_ _ | refine below_alloc ?_ (by first | exact Nat.le_refl _ | assumption | (simp; done) | omega | (simp; omega)) _ | refine below_ext ?_ (by assumption) (by first | exact Nat.le_refl _ | assumption | (simp; done) | omega | (simp; omega)) | refine Ext.drew ?_ | refine Ext.drewN ?_ _ | refine Ext.alloc ?_ _ | refine Ext.setCell ?_ (by first | assumption | (simp; done) | (simp; omega)) _ | refine Below.setCell ?_ (by first | assumption | (simp; done) | (simp; omega)) _ | refine Ext.trans ?_ (by assumption))))).mono ?_; clear HC2; rintro e w2 ⟨rfl, e2⟩))
      have E2' : Ext w w2 := e1.trans e2
      refine (pgenc_any w2 (some ⟨b, o + 4, none⟩) nn (c - 4) D (xx : Int) HDl.out (Rd.at HD.out E2' (Nat.le_refl _)) (by omega) (by omega) (by omega)).mono ?_
      rintro e w3 ⟨v, n3, rfl, hr3, e3⟩
      have E3 : Ext w w3 := E2'.trans e3
      clear e1 e2 e3 E2'
      by_cases h3 : pgE D (xx : Int) = 0
      · rw [h3] at hr3 HO ⊢
        rw [if_pos rfl] at hr3
        generalize pgB D (xx : Int) = PB at *
        obtain ⟨A3, c3, rfl, _, _, _⟩ := own_form hr3
        have h3l : n3 = PB.length := by have := hr3.1; rw [bytes_length, Nat.mul_one] at this; exact this.symm
        have HE := Lib.hid (bequal_any w3 (some ⟨b, o, none⟩) A3 64 c n3 c3 s PB Hn.out h3l (Rd.at HR.out E3 (Nat.le_refl _)) ((Rd.of_own hr3).more (Nat.zero_le _) (Nat.le_refl _)))
        clear hr3 h3l h3
        cases hEq : decide (s = PB)
        · have HB := Lib.hid (show dcOk s = false by rw [HO.out, hEq]; simp)
          rw [hEq] at HE
          go_wp2_with (go_at_call 78; refine HE.out.mono ?_; rintro e w4 ⟨rfl, e4⟩)
          go_ret3
          exact dcOut_bad HB.out (E3.trans e4)
        · have HB := Lib.hid (show dcOk s = true by rw [HO.out, hEq, HL.out]; simp; omega)
          rw [hEq] at HE
          have HCl := Lib.hid (fun W (hW : Ext w W) => cloneb_any W w.heap.size hW.size (some ⟨b, o + 4, none⟩) nn (c - 4) D HDl.out (Rd.at HD.out hW (Nat.le_refl _)) (by omega))
          go_wp2_with (first | (go_at_call 78; refine HE.out.mono ?_; rintro e w4 ⟨rfl, e4⟩))
          refine (HCl.out w4 (E3.trans e4)).mono ?_
          rintro e w5 ⟨v5, rfl, hr5, e5⟩
          have HO5 := Lib.hid hr5
          clear hr5
          go_wp2_with fail
          go_ret3
          exact HOut.out v5 _ w5 HB.out HO5.out ((E3.trans e4).trans e5)
      · have HB := Lib.hid (show dcOk s = false by rw [HO.out]; simp [h3])
        clear hr3
        generalize pgE D (xx : Int) = PE at *
        go_wp2_with fail
        go_ret3
        exact dcOut_bad HB.out E3
  · have HB := Lib.hid (show dcOk s = false by rw [HO.out, ← Hn.out]; simp [h1])
    have h1' : ¬ (n : Int) = 64 := by omega
    go_enter Tryz.func37, Tryz.ntmps37
    go_wp2_with fail
    go_ret3
    exact dcOut_bad HB.out (Ext.refl _)
end Go.Proofs.YtfongpdeflfioaaGreat
/- Sectors that may be: in their bounds, each once; the part of an object that a page holds. -/
namespace Go.Proofs.YtfongpdeflfioaaGreat
open Go.RowKit Go.Maps Go.Sort Go.Shelf

/-- part number k of octets -/
def partO (l : List UInt8) (k : Nat) : List UInt8 := (l.drop (k * 52)).take 52
theorem uni_uni (l : List Int) : (uni (uni l)).length = (uni l).length := by
  have n1 : ∀ l : List Int, (uni l).Nodup := fun l => (uni_sorted l).imp fun h => by omega
  exact ((List.perm_ext_iff_of_nodup (n1 _) (n1 _)).2 fun x => mem_uni _).length_eq
theorem spE_uni (total : Int) (l : List Int) (h : spE total l = 0) : spE total (uni l) = 0 ∧ 2 ≤ total ∧ total ≤ 8192 ∧ (∀ y ∈ l, 2 ≤ y ∧ y < total) ∧ (uni l).length = l.length := by
  unfold spE at h ⊢
  split at h
  · cases h
  · rename_i h1
    split at h
    · cases h
    · rename_i h2
      have h3 : ¬ l.any (badN total) = true := fun q => h1 (.inr (.inr q))
      have hall : ∀ y ∈ l, 2 ≤ y ∧ y < total := fun y hy => by
        have : badN total y = false := by
          cases hb : badN total y
          · rfl
          · exact absurd (List.any_eq_true.2 ⟨y, hy, hb⟩) h3
        simp [badN] at this
        omega
      refine ⟨?_, by omega, by omega, hall, by simpa using h2⟩
      rw [if_neg, if_neg (by rw [uni_uni]; simp)]
      rintro (q | q | q)
      · omega
      · omega
      · obtain ⟨y, hy, hb⟩ := List.any_eq_true.1 q
        exact h3 (List.any_eq_true.2 ⟨y, (mem_uni _).1 hy, hb⟩)
end Go.Proofs.YtfongpdeflfioaaGreat
/- store's kept, right, Slot. -/
namespace Go.Proofs.YtfongpdeflfioaaGreat
open Go.RowKit Go.Maps Go.Sort Go.Shelf
set_option linter.unusedVariables false
set_option linter.unusedSimpArgs false

def sameB (key : ByteArray) (data : List UInt8) (o : Ob) : Bool := decide (o.key = key) && decide (o.data.xs = data)
/-- the object that is the same -/
def keptO (xs : List Ob) (key : ByteArray) (data : List UInt8) : Option Ob := xs.find? (sameB key data)
/-- its sectors -/
def keptL (xs : List Ob) (key : ByteArray) (data : List UInt8) : List Int := ((keptO xs key data).map fun o => o.locs.xs).getD []
/-- what kept tells -/
def KpOut (w : World) (xs : List Ob) (key : ByteArray) (data : List UInt8) (e : Ending) (w' : World) : Prop :=
  ∃ A c, e = .returned (.tuple #[.slice A (keptL xs key data).length c, .bool (keptO xs key data).isSome]) ∧ w'.ownsRow w.heap.size 3 1 (.slice A (keptL xs key data).length c) (keptL xs key data).length (ints (keptL xs key data)) ∧ Ext w w'
theorem find_take {xs : List Ob} {p : Ob → Bool} {k : Nat} (h : ∀ o ∈ xs.take k, p o = false) (hk : k < xs.length) (hp : p xs[k] = true) : xs.find? p = some xs[k] := by
  have h1 : xs = xs.take k ++ xs[k] :: xs.drop (k + 1) := by rw [← List.drop_eq_getElem_cons hk, List.take_append_drop]
  conv => lhs; rw [h1]
  rw [List.find?_append, List.find?_eq_none.2 (fun o ho => by rw [h o ho]; simp), List.find?_cons, hp]
  rfl
theorem toList_eq {a b : ByteArray} : (a.toList == b.toList) = decide (a = b) := by
  rw [Bool.eq_iff_iff]
  simp only [beq_iff_eq, decide_eq_true_eq]
  constructor
  · intro h
    rw [Lib.toList_data, Lib.toList_data] at h
    cases a; cases b
    simp only [Array.toList_inj] at h
    rw [h]
  · rintro rfl; rfl
set_option maxRecDepth 100000 in
set_option maxHeartbeats 8000000 in
theorem kept_any (w : World) (s : Sto) (x : Ob) (h : Sto.At w 0 w.heap.size s) (hx : Ob.At w 0 w.heap.size x) (hl : ∀ o ∈ s.objs.xs, o.locs.n ≤ 10000000) : Calls Tryz.prog 54 #[.agg s.cells.toArray, .agg x.cells.toArray] w (KpOut w s.objs.xs x.key x.data.xs) := by
  have HR := Lib.hid h.objs.rd
  have HA := Lib.hid h.objs.all
  have Hn := Lib.hid h.objs.len
  have HX := Lib.hid hx
  have HLn := Lib.hid hl
  have hm : s.objs.n ≤ 9223372036854775807 := Nat.le_trans h.objs.le h.objs.cap
  have HV := Lib.hid (show keptO s.objs.xs x.key x.data.xs = s.objs.xs.find? (sameB x.key x.data.xs) from rfl)
  have HL := Lib.hid (show keptL s.objs.xs x.key x.data.xs = ((keptO s.objs.xs x.key x.data.xs).map fun o => o.locs.xs).getD [] from rfl)
  unfold KpOut
  generalize keptL s.objs.xs x.key x.data.xs = KL at *
  generalize keptO s.objs.xs x.key x.data.xs = KO at *
  clear h hx hl
  obtain ⟨⟨⟨sA, sn, sc, sx⟩, ⟨wA, wn, wc, wx⟩⟩, ⟨ut, uf, uo⟩, ⟨oA, on, oc, ox⟩, ⟨iA, im, ic, ix⟩⟩ := s
  obtain ⟨xk, ⟨xA, xn, xc, xx⟩, ⟨yA, yn, yc, yx⟩⟩ := x
  simp only [Sto.cells, Ob.cells, Sl.val] at *
  go_enter Tryz.func54, Tryz.ntmps54
  go_upto_region 1 with fail
  generalize hwH : World.alloc (World.alloc w _) _ = w1; have HH := Lib.hid (Heap.two hwH); clear hwH
  go_wp2_with (refine shl_load1 HH.out rfl rfl rfl 1 rfl rfl (by decide +kernel) ?_)
  go_loopw [11] (fun v wr => ∃ k : Nat, k ≤ on ∧ v = .int .i64 (k : Int) ∧ Hid (∀ o ∈ ox.take k, sameB xk xx o = false) ∧ Hid (Heap w [.box (w.heap.size + 1) [.string xk, .slice xA xn xc, .slice yA yn yc], .box w.heap.size [.slice sA sn sc, .slice wA wn wc, .int .i64 ut, .int .i64 uf, .int .i64 uo, .slice oA on oc, .slice iA im ic]] wr)) (fun v _ => on - (intOf v).toNat)
  case atStart => exact ⟨0, Nat.zero_le _, rfl, Lib.hid (by simp), HH⟩
  case round =>
    clear HH
    obtain ⟨k, hk, rfl, HK, HH⟩ := hrel
    by_cases hlt : k < on
    · have l1 : k < ox.length := by rw [← Hn.out]; exact hlt
      obtain ⟨b1, o1, rfl, hb1, f0, f1, f2⟩ := rd_ob (HR.out.ext HH.out.ext (Nat.le_refl _)) l1
      have HOA := Lib.hid (HA.out _ (List.getElem_mem l1))
      have HOl := Lib.hid (HLn.out _ (List.getElem_mem l1))
      have HS := Lib.hid (fun hp => find_take (p := sameB xk xx) HK.out l1 hp)
      have HT := Lib.hid (List.take_succ_eq_append_getElem l1)
      generalize ox[k] = o at *
      obtain ⟨ok, ⟨dA, dn, dc, dx⟩, ⟨lA, ln, lc, lx⟩⟩ := o
      simp only [Sl.val] at f1 f2
      dsimp only at f0
      have HSB := Lib.hid (show sameB xk xx ⟨ok, ⟨dA, dn, dc, dx⟩, ⟨lA, ln, lc, lx⟩⟩ = (decide (ok = xk) && decide (dx = xx)) from rfl)
      go_upto_region 4 with (first | (refine shl_store (HH.out.alloc _ _) sizeOb rfl rfl rfl rfl 0 rfl rfl rfl rfl ?_; clear HH; intro wS HHS; have HH := Lib.hid HHS; clear HHS))
      have hte := toList_eq (a := ok) (b := xk)
      by_cases hkey : ok = xk
      · rw [decide_eq_true hkey] at hte HSB
        have c0 := (HH.out.boxAt 0 rfl).cell 0 _ rfl
        have c1 := (HH.out.boxAt 0 rfl).cell 1 _ rfl
        have c2 := (HH.out.boxAt 1 rfl).cell 0 _ rfl
        have c3 := (HH.out.boxAt 1 rfl).cell 1 _ rfl
        go_wp2_with fail
        refine (bequal_any wS dA xA dn dc xn xc dx xx HOA.out.data.len HX.out.data.len (Rd.at HOA.out.data.rdb HH.out.ext (Nat.le_refl _)) (Rd.at HX.out.data.rdb HH.out.ext (Nat.le_refl _))).mono ?_
        rintro e w5 ⟨rfl, e5⟩
        have HH5 := Lib.hid (HH.out.later e5)
        clear HH e5 c0 c1 c2 c3
        have HH := HH5
        clear HH5
        by_cases hd : dx = xx
        · rw [decide_eq_true hd] at HSB ⊢
          have hKO := HV.out.trans (HS.out HSB.out)
          clear HV HS
          subst hKO
          have hKL : KL = lx := HL.out
          clear HL
          subst hKL
          have hll : ln = KL.length := HOA.out.locs.len
          subst hll
          go_wp2_with (first | (refine shl_load1 HH.out rfl rfl rfl 0 rfl rfl (by decide +kernel) ?_))
          refine (iclone_any w5 lA KL.length lc KL rfl (Rd.at HOA.out.locs.rdi HH.out.ext (Nat.le_refl _)) (by have := HOl.out; (try dsimp only at this); omega)).mono ?_
          rintro e w6 ⟨v6, rfl, hown, e6⟩
          have HO := Lib.hid (own_lower hown HH.out.ext.size)
          have HX6 := Lib.hid (HH.out.ext.trans e6)
          obtain ⟨A6, c6, rfl, _, _, _⟩ := own_form HO.out
          clear hown e6 HH
          go_wp2_with fail
          go_ret2
          exact ⟨A6, c6, rfl, HO.out, HX6.out⟩
        · rw [decide_eq_false hd] at HSB ⊢
          go_wp2_with fail
          go_roundw
          case rel =>
            refine ⟨k + 1, by omega, by go_num, Lib.hid (fun z hz => ?_), Lib.hid HH.out.tail⟩
            rw [HT.out] at hz
            rcases List.mem_append.1 hz with hz | hz
            · exact HK.out z hz
            · simp only [List.mem_singleton] at hz; subst hz; exact HSB.out
          case measure => simp [intOf]; omega
      · rw [decide_eq_false hkey] at hte HSB
        have c0 := (HH.out.boxAt 0 rfl).cell 0 _ rfl
        have c2 := (HH.out.boxAt 1 rfl).cell 0 _ rfl
        go_wp2_with fail
        go_roundw
        case rel =>
          refine ⟨k + 1, by omega, by go_num, Lib.hid (fun z hz => ?_), Lib.hid HH.out.tail⟩
          rw [HT.out] at hz
          rcases List.mem_append.1 hz with hz | hz
          · exact HK.out z hz
          · simp only [List.mem_singleton] at hz; subst hz; exact HSB.out
        case measure => simp [intOf]; omega
    · obtain rfl : on = k := by omega
      have ht : ox.take on = ox := List.take_of_length_le (by rw [← Hn.out]; exact Nat.le_refl _)
      have hKO : KO = none := by
        rw [HV.out, List.find?_eq_none]
        intro o ho
        have := HK.out o (by rw [ht]; exact ho)
        rw [this]; simp
      subst hKO
      have hKL : KL = [] := HL.out
      subst hKL
      go_wp2_with fail
      go_ret2
      exact ⟨none, 0, rfl, World.ownsRow_nil _ _ _ _, HH.out.ext⟩
end Go.Proofs.YtfongpdeflfioaaGreat
/- What calls made and what reads on, kept as one item of a world. store.need, store's writer.take. -/
namespace Go.Proofs.YtfongpdeflfioaaGreat
open Go.RowKit Go.Maps Go.Sort Go.Shelf
set_option linter.unusedVariables false
set_option linter.unusedSimpArgs false

abbrev RdL := List (Option Addr × List Value)
/-- rows that read, in blocks of S -/
def It.bag (S : Nat → Prop) (L : RdL) : It :=
  .any S (fun w => (∀ k, S k → k < w.heap.size) ∧ ∀ q ∈ L, RdK w S q.1 q.2) (fun w k h hk => h.1 k hk) (fun w w' hs hk h => ⟨fun k h1 => Nat.lt_of_lt_of_le (h.1 k h1) hs, fun q hq hn => by
    obtain ⟨b, o, e, h1, h2, h3⟩ := h.2 q hq hn
    exact ⟨b, o, e, Nat.lt_of_lt_of_le h1 hs, h2, fun j u hu => (World.cell?_of_block (w := w) (a := ⟨b, o + j, none⟩) (hk b h2)).trans (h3 j u hu)⟩⟩)
section
variable {w0 w w' : World} {its : List It} {j : Nat} {S : Nat → Prop} {L L2 : RdL}
theorem Heap.bag0 (H : Heap w0 its w) : Heap w0 (It.bag (fun _ => False) [] :: its) w :=
  H.add (Ext.refl w) ⟨fun k hk => hk.elim, fun k hk => hk.elim, fun q hq => by cases hq⟩ (fun k hk => hk.elim)
/-- what a call made goes into the bag -/
theorem Heap.bagExt (H : Heap w0 its w) (hj : its[j]? = some (It.bag S L)) (e : Ext w w') (h : ∀ q ∈ L2, Rd w' w.heap.size w'.heap.size q.1 q.2) : ∃ S', Heap w0 (its.set j (It.bag S' (L2 ++ L))) w' := by
  have hb := H.all j _ hj
  refine ⟨fun k => S k ∨ (w.heap.size ≤ k ∧ k < w'.heap.size), H.upd hj (Keep.of_ext e) ⟨fun k hk => ?_, fun k hk => ?_, fun q hq => ?_⟩ (fun k hk => ?_) (fun k hk => ?_) (fun k hk => hb.1 k hk)⟩
  · rcases hk with hk | hk
    · exact hb.1 k hk
    · exact Nat.le_trans H.ext.size hk.1
  · rcases hk with hk | hk
    · exact Nat.lt_of_lt_of_le (hb.2.1 k hk) e.size
    · exact hk.2
  · rcases List.mem_append.1 hq with hq | hq
    · intro hn
      obtain ⟨b, o, ha, h1, h2, h3⟩ := h q hq hn
      exact ⟨b, o, ha, h2, .inr ⟨h1, h2⟩, h3⟩
    · intro hn
      obtain ⟨b, o, ha, h1, h2, h3⟩ := hb.2.2 q hq hn
      exact ⟨b, o, ha, Nat.lt_of_lt_of_le h1 e.size, .inl h2, fun j u hu => (Below.cell (p := ⟨b, o + j, none⟩) e h1).trans (h3 j u hu)⟩
  · rcases hk with hk | hk
    · exact .inl hk
    · exact .inr hk.1
  · rcases hk with hk | hk
    · exact .inl hk
    · exact .inr hk.1
/-- what reads by what reads in the bag -/
theorem Heap.bagMore (H : Heap w0 its w) (hj : its[j]? = some (It.bag S L)) (h : ∀ q ∈ L2, ∀ ok, (∀ q ∈ L, RdK w ok q.1 q.2) → RdK w ok q.1 q.2) : Heap w0 (its.set j (It.bag S (L2 ++ L))) w := by
  have hb := H.all j _ hj
  exact H.upd hj (Keep.refl _ _) ⟨hb.1, hb.2.1, fun q hq => by
    rcases List.mem_append.1 hq with hq | hq
    · exact h q hq S hb.2.2
    · exact hb.2.2 q hq⟩ (fun k hk => .inl hk) (fun k hk => .inl hk) (fun k hk => hb.1 k hk)
theorem Heap.bagRd (H : Heap w0 its w) (hj : its[j]? = some (It.bag S L)) {A : Option Addr} {cs : List Value} (hq : (A, cs) ∈ L) : Rd w w0.heap.size w.heap.size A cs := by
  have hb := H.all j _ hj
  intro hn
  obtain ⟨b, o, ha, h1, h2, h3⟩ := hb.2.2 _ hq hn
  exact ⟨b, o, ha, hb.1 b h2, h1, h3⟩
end
theorem RdK.drop {w : World} {ok : Nat → Prop} {A : Option Addr} {cs : List Value} (h : RdK w ok A cs) (k : Nat) : RdK w ok (A.map (·.add k)) (cs.drop k) := fun hn => by
  obtain ⟨b, o, e, h1, h2, h3⟩ := h (fun e => hn (by rw [e, List.drop_nil]))
  refine ⟨b, o + k, by rw [e]; simp [add_lit], h1, h2, fun j u hu => ?_⟩
  rw [List.getElem?_drop] at hu
  rw [Nat.add_assoc]
  exact h3 _ u hu
theorem RdK.from_ {w : World} {ok : Nat → Prop} {n c k : Nat} {A : Option Addr} {cs : List Value} (h : RdK w ok A cs) (hl : cs.length = n) (hk : k ≤ n) (hc : n ≤ c) : RdK w ok (shiftA A c k 1) (cs.drop k) := by
  unfold shiftA
  by_cases e : c = k
  · rw [List.drop_eq_nil_of_le (by omega)]
    exact RdK.nil
  · rw [if_neg e, Nat.mul_one]
    exact h.drop _
theorem run_sl_upto {P : Program} (w : World) (t e : TypeId) (inf : TypeInfo) (ht : P.underlying t = some (.slice e)) (hi : P.info? e = some inf) (hs : inf.size = 1) (A : Option Addr) (n c m : Nat) (M : Int) (hM : M = (m : Int)) (hm : m ≤ c) :
    (Instr.slice t (.slice A n c) none (some (.int .i64 M)) none).run P w = .ok (.slice A m c) w := by
  subst hM
  have hb : (Instr.sliceBounds true n c none (some (.int .i64 (m : Int))) none).run P w = .ok (0, m, c) w := by
    simp [Instr.sliceBounds, run_sliceBound (P := P) w .i64 (m : Int) c .sliceAcap (by omega) (by omega)]
  cases A with
  | none => simp [Instr.slice, run_underlying ht, hb, sizeOf, typeInfo, hi, hs]
  | some a => simp [Instr.slice, run_underlying ht, hb, sizeOf, typeInfo, hi, hs, Addr.add]
theorem ints_take (l : List Int) (k : Nat) : (ints l).take k = ints (l.take k) := by simp [ints]
theorem ints_drop (l : List Int) (k : Nat) : (ints l).drop k = ints (l.drop k) := by simp [ints]
abbrev errV (q : Int) : Value := .iface 39 (.int .i64 q)
set_option maxRecDepth 100000 in
theorem sneed_true (w : World) (q : Int) : Calls Tryz.prog 59 #[.bool true, .int .i64 q] w fun e w' => e = .returned (.tuple #[]) ∧ w' = w := by
  go_enter Tryz.func59, Tryz.ntmps59
  go_wp2_with fail
  go_end0
  exact ⟨rfl, rfl⟩
set_option maxRecDepth 100000 in
theorem sneed_false (w : World) (q : Int) : Calls Tryz.prog 59 #[.bool false, .int .i64 q] w fun e w' => e = .panicked [{ v := errV q, recovered := false }] ∧ w' = w := by
  go_enter Tryz.func59, Tryz.ntmps59
  go_wp2_with fail
  exact ⟨rfl, rfl, rfl⟩
set_option maxRecDepth 100000 in
set_option maxHeartbeats 4000000 in
theorem take_bad {w0 w : World} {its : List It} (H : Heap w0 its w) (wb : Nat) (fA : Option Addr) (fn fc : Nat) (av : Value) (i m : Nat) (hi : its[i]? = some (.box wb [.slice fA fn fc, av])) (hm : fn < m) (hM : m ≤ 1000000000) :
    Calls Tryz.prog 97 #[.pointer (some ⟨wb, 0, none⟩), .int .i64 (m : Int)] w fun e w' => e = .panicked [{ v := errV 17, recovered := false }] ∧ Heap w0 its w' := by
  have HH := Lib.hid H
  have HI := Lib.hid hi
  clear H hi
  have hd : decide (m ≤ fn) = false := by simp; omega
  go_enter Tryz.func97, Tryz.ntmps97
  go_wp2_with (refine shl_load1 HH.out rfl rfl rfl (i) (HI.out) rfl (by decide +kernel) ?_)
  refine (sneed_false w 17).mono ?_
  rintro e w3 ⟨rfl, rfl⟩
  exact ⟨rfl, rfl, HH.out⟩
set_option maxRecDepth 100000 in
set_option maxHeartbeats 4000000 in
theorem take_ok {w0 w : World} {its : List It} (H : Heap w0 its w) (wb : Nat) (fA : Option Addr) (fn fc : Nat) (av : Value) (i j m : Nat) (hij : i ≠ j) (hi : its[i]? = some (.box wb [.slice fA fn fc, av])) (S : Nat → Prop) (L : RdL) (hj : its[j]? = some (It.bag S L)) (fs : List Int) (hf : (fA, ints fs) ∈ L) (hn : fn = fs.length) (hc : fn ≤ fc) (hm : m ≤ fn) (hM : fn ≤ 100000000) :
    Calls Tryz.prog 97 #[.pointer (some ⟨wb, 0, none⟩), .int .i64 (m : Int)] w fun e w' => ∃ A c fA' S', e = .returned (.slice A m c) ∧ m ≤ c ∧ c ≤ maxLen ∧ Heap w0 ((its.set j (It.bag S' ((fA', ints (fs.drop m)) :: (A, ints (fs.take m)) :: L))).set i (.box wb [.slice fA' (fn - m) (fc - m), av])) w' := by
  obtain ⟨i0, hi0, hz0, hz1, hz2⟩ := info_parts infoI
  have HH := Lib.hid H
  have HI := Lib.hid hi
  have HJ := Lib.hid hj
  have HF := Lib.hid hf
  have Hn := Lib.hid hn
  have HIJ := Lib.hid hij
  clear H hi hj hf hn hij
  have hd : decide (m ≤ fn) = true := by simp; omega
  have hs1 := fun W => run_sl_upto (P := Tryz.prog) W 29 3 i0 Tryz.underlying29 hi0 hz1 fA fn fc m _ rfl (by omega)
  have hs2 := fun W => run_slice_from (P := Tryz.prog) W 29 3 i0 1 Tryz.underlying29 hi0 hz1 fA fn fc m _ rfl hm
  go_enter Tryz.func97, Tryz.ntmps97
  go_wp2_with (refine shl_load1 HH.out rfl rfl rfl (i) (HI.out) rfl (by decide +kernel) ?_)
  refine (sneed_true w 17).mono ?_
  rintro e w3 ⟨rfl, rfl⟩
  go_wp2_with (refine shl_load1 HH.out rfl rfl rfl (i) (HI.out) rfl (by decide +kernel) ?_)
  have hrd := (HH.out.bagRd HJ.out HF.out).more (Nat.zero_le _) (Nat.le_refl _)
  refine (iclone_any w3 fA m fc (fs.take m) (by rw [List.length_take, ← Hn.out]; omega) (by have := hrd.take m; rwa [ints_take] at this) (by omega)).mono ?_
  rintro e w4 ⟨v, rfl, hown, e4⟩
  obtain ⟨A, c, rfl, k1, k2, _⟩ := own_form hown
  obtain ⟨S', H2⟩ := HH.out.bagExt HJ.out e4 (L2 := [(A, ints (fs.take m))]) (fun q hq => by
    simp only [List.mem_cons, List.not_mem_nil, or_false] at hq
    subst hq
    exact Rd.of_own hown)
  have HJ2 := Lib.hid (List.getElem?_set_self (a := It.bag S' ([(A, ints (fs.take m))] ++ L)) (List.getElem?_eq_some_iff.1 HJ.out).1)
  have H3 := H2.bagMore (L2 := [(shiftA fA fc m 1, ints (fs.drop m))]) HJ2.out (fun q hq ok hok => by
    simp only [List.mem_cons, List.not_mem_nil, or_false] at hq
    subst hq
    have h1 := hok (fA, ints fs) (List.mem_append_right _ HF.out)
    have h2 := h1.from_ (n := fn) (c := fc) (k := m) (by rw [ints_length, Hn.out]) hm hc
    rwa [ints_drop] at h2)
  rw [List.set_set] at H3
  have HI2 := Lib.hid (show (its.set j (It.bag S' ((shiftA fA fc m 1, ints (fs.drop m)) :: (A, ints (fs.take m)) :: L)))[i]? = some (.box wb [.slice fA fn fc, av]) from (List.getElem?_set_ne (Ne.symm HIJ.out)).trans HI.out)
  have HH3 := Lib.hid (show Heap w0 (its.set j (It.bag S' ((shiftA fA fc m 1, ints (fs.drop m)) :: (A, ints (fs.take m)) :: L))) w4 from H3)
  clear HH hown e4 H2 H3 hrd HJ2
  have HH := HH3
  clear HH3
  go_wp2_with (first | (refine shl_load1 HH.out rfl rfl rfl (i) (HI2.out) rfl (by decide +kernel) ?_) | (refine shl_store1 HH.out rfl rfl rfl rfl (i) (HI2.out) rfl rfl (by kernel_rfl) ?_; clear HH; intro wS HHS; have HH := Lib.hid HHS; clear HHS))
  go_ret
  exact ⟨A, c, _, S', rfl, k1, k2, HH.out⟩
end Go.Proofs.YtfongpdeflfioaaGreat
