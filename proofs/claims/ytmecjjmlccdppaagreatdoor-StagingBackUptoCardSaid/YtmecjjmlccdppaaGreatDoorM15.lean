/- The texts PathL, Shelf, Pth, Stg, Bcl in one file. -/
import Derived.Test.YtmecjjmlccdppaaGreatDoorM6
import Derived.Lib.SplitLaws
import Derived.Shelf.Strings.Split
import Derived.Test.YtmecjjmlccdppaaGreatDoorProg
import Derived.Test.YtmecjjmlccdppaaGreatDoorM1
import Derived.Deep.DeepCutAuto
import Derived.Test.YtmecjjmlccdppaaGreatDoorM10
import Derived.Test.YtmecjjmlccdppaaGreatDoorM12
/- A path's parts: plain laws. -/
namespace Go.Proofs.YtmecjjmlccdppaaGreatDoor
open Go.Lib (index count splitK)

/-- what stands between the octets 47 -/
def partsGo : List UInt8 → List UInt8 → List (List UInt8)
  | cur, [] => [cur]
  | cur, c :: l => if c = 47 then cur :: partsGo [] l else partsGo (cur ++ [c]) l
def parts (l : List UInt8) : List (List UInt8) := partsGo [] l
theorem index_cons (b : UInt8) (l : List UInt8) : index (b :: l) [47] = if b = 47 then 0 else if index l [47] == -1 then -1 else index l [47] + 1 := by
  rw [index]
  by_cases h : b = 47
  · subst h; simp
  · have : ([47] : List UInt8).isPrefixOf (b :: l) = false := by
      simp [List.isPrefixOf, Ne.symm h]
    rw [this, if_neg h]
    simp
theorem partsGo_at (s : List UInt8) : ∀ cur, partsGo cur s = if index s [47] == -1 then [cur ++ s] else (cur ++ s.take (index s [47]).toNat) :: partsGo [] (s.drop ((index s [47]).toNat + 1)) := by
  induction s with
  | nil => intro cur; simp [partsGo, index]
  | cons b l ih =>
    intro cur
    rw [index_cons]
    by_cases h : b = 47
    · subst h; simp [partsGo]
    · rw [partsGo, if_neg h, if_neg h, ih]
      have hge := Go.Lib.index_ge l [47]
      by_cases h2 : index l [47] == -1
      · rw [if_pos h2, if_pos h2, if_pos (by rfl)]
        simp
      · rw [if_neg h2, if_neg h2]
        have h3 : index l [47] ≠ -1 := by simpa using h2
        have h4 : ((index l [47] + 1) == -1) = false := by simp; omega
        rw [h4, if_neg (by decide), show (index l [47] + 1).toNat = (index l [47]).toNat + 1 by omega]
        simp
theorem splitK_parts : ∀ (k : Nat) (s : List UInt8), count s [47] = k → splitK [47] 0 k s = parts s
  | 0, s, h => by
    have hi : index s [47] = -1 := by
      have hge := Go.Lib.index_ge s [47]
      refine Decidable.byContradiction fun hn => ?_
      have := Go.Lib.count_hit (s := s) (sub := [47]) (i := (index s [47]).toNat) (by simp) (by omega)
      omega
    rw [parts, partsGo_at, hi]
    rfl
  | k + 1, s, h => by
    have hge := Go.Lib.index_ge s [47]
    have hn : ¬ (index s [47] == -1) = true := fun e => by
      have := Go.Lib.count_miss (s := s) (sub := [47]) (by simpa using e)
      omega
    have hc := Go.Lib.count_hit (s := s) (sub := [47]) (i := (index s [47]).toNat) (by simp) (by have : index s [47] ≠ -1 := (by simpa using hn); omega)
    have hk : count (s.drop ((index s [47]).toNat + 1)) [47] = k := by simp only [List.length_singleton] at hc; omega
    have ih := splitK_parts k _ hk
    rw [splitK, if_neg hn, parts, partsGo_at, if_neg hn, List.nil_append, Nat.add_zero]
    congr 1
theorem partsGo_len (s : List UInt8) : ∀ cur, (partsGo cur s).length = s.count 47 + 1 := by
  induction s with
  | nil => intro cur; rfl
  | cons b l ih =>
    intro cur
    rw [partsGo]
    by_cases h : b = 47
    · subst h; rw [if_pos rfl, List.length_cons, ih]; simp
    · rw [if_neg h, ih, List.count_cons_of_ne h]
/-- may a text be a path? -/
def pathB (s : ByteArray) : Bool := decide (s.size = 0) || (decide ((parts s.data.toList).length ≤ 4) && (parts s.data.toList).all fun l => nameB ⟨l.toArray⟩)
end Go.Proofs.YtmecjjmlccdppaaGreatDoor
/- The shelf's contract of strings.Split, laid over this program by the kit's lay-shelf and lay-plain. Its conditions: a text shorter than 4294967281 octets; the library's variable MaxLen holds some integer. -/
namespace Go.Proofs
open Go.Shelf
def Tryz.lays146_ren : Go.Shelf.Ren := ⟨fun | 146 => 54 | 221 => 91 | 268 => 118 | 138 => 119 | 143 => 120 | 195 => 134 | 197 => 135 | 218 => 136 | 219 => 137 | 260 => 152 | 217 => 153 | 225 => 154 | 224 => 155 | 267 => 156 | 266 => 163 | 314 => 164 | n => n, fun | 9 => 9 | 31 => 48 | 3 => 3 | 4 => 4 | 0 => 0 | 105 => 202 | 21 => 21 | 5 => 5 | 46 => 164 | 119 => 224 | 139 => 227 | 138 => 226 | 146 => 228 | 51 => 127 | n => n, fun | 1 => 0 | 3 => 1 | 4 => 2 | n => n⟩
theorem Tryz.lays146 : Go.Proofs.Lays.n146 Tryz.prog Tryz.lays146_ren := {
  mixed := by kernel_rfl
  f138 := Tryz.func119.trans (congrArg some (by kernel_rfl))
  f143 := Tryz.func120.trans (congrArg some (by kernel_rfl))
  f146 := Tryz.func54.trans (congrArg some (by kernel_rfl))
  f195 := Tryz.func134.trans (congrArg some (by kernel_rfl))
  f197 := Tryz.func135.trans (congrArg some (by kernel_rfl))
  f217 := Tryz.func153.trans (congrArg some (by kernel_rfl))
  f218 := Tryz.func136.trans (congrArg some (by kernel_rfl))
  f219 := Tryz.func137.trans (congrArg some (by kernel_rfl))
  f221 := Tryz.func91.trans (congrArg some (by kernel_rfl))
  f224 := Tryz.func155.trans (congrArg some (by kernel_rfl))
  f225 := Tryz.func154.trans (congrArg some (by kernel_rfl))
  f260 := Tryz.func152.trans (congrArg some (by kernel_rfl))
  f266 := Tryz.func163.trans (congrArg some (by kernel_rfl))
  f267 := Tryz.func156.trans (congrArg some (by kernel_rfl))
  f268 := Tryz.func118.trans (congrArg some (by kernel_rfl))
  f314 := Tryz.func164.trans (congrArg some (by kernel_rfl))
  t0 := Tryz.underlying0
  a0 := Tryz.isAgg0
  z0 := Tryz.sizeOf0
  v0 := Tryz.zeroValue0
  t3 := Tryz.underlying3
  a3 := Tryz.isAgg3
  z3 := Tryz.sizeOf3
  v3 := Tryz.zeroValue3
  t4 := Tryz.underlying4
  a4 := Tryz.isAgg4
  z4 := Tryz.sizeOf4
  v4 := Tryz.zeroValue4
  t5 := Tryz.underlying5
  a5 := Tryz.isAgg5
  z5 := Tryz.sizeOf5
  v5 := Tryz.zeroValue5
  t9 := Tryz.underlying9
  a9 := Tryz.isAgg9
  z9 := Tryz.sizeOf9
  v9 := Tryz.zeroValue9
  t21 := Tryz.underlying21
  a21 := Tryz.isAgg21
  z21 := Tryz.sizeOf21
  v21 := Tryz.zeroValue21
  t31 := Tryz.underlying48
  a31 := Tryz.isAgg48
  z31 := Tryz.sizeOf48
  v31 := Tryz.zeroValue48
  t46 := Tryz.underlying164
  a46 := Tryz.isAgg164
  z46 := Tryz.sizeOf164
  v46 := Tryz.zeroValue164
  t51 := Tryz.underlying127
  a51 := Tryz.isAgg127
  z51 := Tryz.sizeOf127
  v51 := Tryz.zeroValue127
  t105 := Tryz.underlying202
  a105 := Tryz.isAgg202
  z105 := Tryz.sizeOf202
  v105 := Tryz.zeroValue202
  t119 := Tryz.underlying224
  a119 := Tryz.isAgg224
  z119 := Tryz.sizeOf224
  t138 := Tryz.underlying226
  a138 := Tryz.isAgg226
  z138 := Tryz.sizeOf226
  v138 := Tryz.zeroValue226
  t139 := Tryz.underlying227
  a139 := Tryz.isAgg227
  z139 := Tryz.sizeOf227
  v139 := Tryz.zeroValue227
  t146 := Tryz.underlying228
  a146 := Tryz.isAgg228
  z146 := Tryz.sizeOf228
  v146 := Tryz.zeroValue228
  g1 := by kernel_rfl
  g3 := by kernel_rfl
  g4 := by kernel_rfl }
open Go.RowKit Go.Lib in
/-- strings.Split. (LAID: no walk: one application.) -/
theorem Tryz.strings_Split (s sep : ByteArray) (m : Int) (w : World) (hs : s.size < 4294967281) (hm : w.cell? ⟨0, 0, none⟩ = some (.int .i64 m)) (h1 : 1 ≤ sep.size) :
    Calls Tryz.prog 54 #[.string s, .string sep] w fun e w' =>
      e = .returned (.slice (some ⟨w.heap.size, 0, none⟩) (Lib.countB s sep + 1) (Lib.countB s sep + 1)) ∧ w' = w.alloc (.cells ((Lib.splitB sep 0 (Lib.countB s sep) s).map Value.string).toArray 9) := Any.strings_Split Tryz.lays146 (by kernel_rfl) s sep m w hs hm h1
end Go.Proofs
/- names.Path; the reference's Parts and Path. Of strings.Split the shelf's contract is asked: a text shorter than 4294967281 octets. -/
namespace Go.Proofs.YtmecjjmlccdppaaGreatDoor
open Go.RowKit
set_option linter.unusedVariables false
set_option linter.unusedSimpArgs false

/-- the library's variable MaxLen holds some integer -/
def MaxV (w : World) : Prop := ∃ m : Int, w.cell? ⟨0, 0, none⟩ = some (.int .i64 m)
theorem MaxV.ext {w w' : World} (h : MaxV w) (e : Ext w w') : MaxV w' := by
  obtain ⟨m, hm⟩ := h
  exact ⟨m, (Below.cell e (World.block_lt_of_cell? w _ hm)).trans hm⟩
theorem parts_small (s : List UInt8) : ∀ cur, ∀ p ∈ partsGo cur s, p.length ≤ cur.length + s.length := by
  induction s with
  | nil => intro cur p hp; simp only [partsGo, List.mem_singleton] at hp; subst hp; simp
  | cons b l ih =>
    intro cur p hp
    rw [partsGo] at hp
    by_cases h : b = 47
    · rw [if_pos h, List.mem_cons] at hp
      rcases hp with rfl | hp
      · simp
      · have := ih [] p hp
        simp at this ⊢
        omega
    · rw [if_neg h] at hp
      have := ih _ p hp
      simp at this ⊢
      omega
theorem of_list (s : ByteArray) : (⟨s.data.toList.toArray⟩ : ByteArray) = s := rfl
theorem split_any (s : ByteArray) (w : World) (hM : MaxV w) (hs : s.size < 4294967281) (sep : ByteArray) (hsep : sep = ⟨#[47]⟩) :
    Calls Tryz.prog 54 #[.string s, .string sep] w fun e w' => ∃ ps : List ByteArray, ps.map (·.data.toList) = parts s.data.toList ∧ e = .returned (.slice (some ⟨w.heap.size, 0, none⟩) ps.length ps.length) ∧ w' = w.alloc (.cells (ps.map Value.string).toArray 9) := by
  subst hsep
  obtain ⟨m, hm⟩ := hM
  refine (Tryz.strings_Split s ⟨#[47]⟩ m w hs hm (by decide)).mono ?_
  rintro e w' ⟨rfl, rfl⟩
  have h1 := Lib.splitB_all ⟨#[47]⟩ (by decide) 0 _ s rfl
  exact ⟨_, (Lib.splitB_data ⟨#[47]⟩ 0 _ s).trans (splitK_parts _ _ rfl), by rw [h1], rfl⟩
def noName (s : ByteArray) : Bool := !nameB s
theorem noName_any (s : ByteArray) (w : World) (hm : s.size ≤ 9223372036854775807) : Calls Tryz.prog 56 #[.string s] w fun e w' => e = .returned (.bool (noName s)) ∧ Ext w w' := by
  have hv := Lib.hid (show noName s = !nameB s from rfl)
  have H := Lib.hid (name_any s w hm)
  generalize nameB s = b at *
  go_enter Tryz.func56, Tryz.ntmps56
  go_wp2_with fail
  refine H.out.mono ?_
  rintro e w2 ⟨rfl, e2⟩
  go_wp2_with fail
  go_ret
  exact ⟨by rw [hv.out]; rfl, e2⟩
/-- the first long one, or -1 -/
def IdxN (l : List ByteArray) (w : World) (e : Ending) (w' : World) : Prop :=
  ∃ r : Int, e = .returned (.int .i64 r) ∧ l.any noName = decide (0 ≤ r) ∧ -1 ≤ r ∧ Ext w w'
set_option maxRecDepth 100000 in
set_option maxHeartbeats 400000 in
theorem idxn_any (w : World) (A : Option Addr) (n c lo hi : Nat) (l : List ByteArray) (hn : n = l.length) (hm : n ≤ 9223372036854775807) (hr : Rd w lo hi A (l.map Value.string)) (hh : hi ≤ w.heap.size) (hsz : ∀ s ∈ l, s.size ≤ 9223372036854775807) :
    Calls Tryz.prog 92 #[.slice A n c, .func (.func 56) #[] #[]] w (IdxN l w) := by
  have Hn := Lib.hid hn
  have HSz := Lib.hid hsz
  clear hn hsz
  go_enter Tryz.func92, Tryz.ntmps92
  go_wp2_with fail
  go_loopw [8] (fun i wr => ∃ k : Nat, k ≤ n ∧ i = .int .i64 k ∧ (l.take k).any noName = false ∧ Ext w wr) (fun i _ => n - (intOf i).toNat)
  case atStart => exact ⟨0, Nat.zero_le _, rfl, rfl, Ext.refl _⟩
  case round =>
    obtain ⟨k, hk, rfl, hno, e1⟩ := hrel
    have HK := Lib.hid hno
    clear hno
    by_cases hlt : k < n
    · obtain ⟨b1, o1, rfl, _, _, f0⟩ := rd_str (hr.ext e1 hh) (k := k) (by rw [← Hn.out]; omega)
      have hl : k < l.length := by rw [← Hn.out]; omega
      obtain ⟨y, hy⟩ : ∃ y, y = l[k]'hl := ⟨_, rfl⟩
      rw [← hy] at f0
      have HY := Lib.hid hy
      clear hy
      go_wp2_with fail
      refine (noName_any y _ (by have := HSz.out y (by rw [HY.out]; exact List.getElem_mem _); exact this)).mono ?_
      rintro e w2 ⟨rfl, e2⟩
      cases ho : noName y
      · go_wp2_with fail
        go_roundw
        case rel =>
          refine ⟨k + 1, by omega, by go_num, ?_, by (repeat (first | exact Below.refl _ _ | exact Ext.refl _ | assumption | refine Below.drew ?_ | refine below_drewN ?_ _ | refine below_alloc ?_ (by first | exact Nat.le_refl _ | assumption | (simp; done) | omega | (simp; omega)) _ | refine below_ext ?_ (by assumption) (by first | exact Nat.le_refl _ | assumption | (simp; done) | omega | (simp; omega)) | refine Ext.drew ?_ | refine Ext.drewN ?_ _ | refine Ext.alloc ?_ _ | refine Ext.setCell ?_ (by first | assumption | (simp; done) | (simp; omega)) _ | refine Below.setCell ?_ (by first | assumption | (simp; done) | (simp; omega)) _ | refine Ext.trans ?_ (by assumption)))⟩
          rw [List.take_succ_eq_append_getElem hl, List.any_append, HK.out, ← HY.out]
          simp [ho]
        case measure => simp [intOf]; omega
      · go_wp2_with fail
        go_ret
        refine ⟨k, rfl, ?_, by omega, by (repeat (first | exact Below.refl _ _ | exact Ext.refl _ | assumption | refine Below.drew ?_ | refine below_drewN ?_ _ | refine below_alloc ?_ (by first | exact Nat.le_refl _ | assumption | (simp; done) | omega | (simp; omega)) _ | refine below_ext ?_ (by assumption) (by first | exact Nat.le_refl _ | assumption | (simp; done) | omega | (simp; omega)) | refine Ext.drew ?_ | refine Ext.drewN ?_ _ | refine Ext.alloc ?_ _ | refine Ext.setCell ?_ (by first | assumption | (simp; done) | (simp; omega)) _ | refine Below.setCell ?_ (by first | assumption | (simp; done) | (simp; omega)) _ | refine Ext.trans ?_ (by assumption)))⟩
        have h1 : l.any noName = true := List.any_eq_true.2 ⟨y, by rw [HY.out]; exact List.getElem_mem _, ho⟩
        rw [h1]
        simp
    · go_wp2_with fail
      go_ret
      obtain rfl : k = n := by omega
      have h1 := HK.out
      rw [List.take_of_length_le (by rw [← Hn.out]; exact Nat.le_refl _)] at h1
      exact ⟨-1, rfl, by rw [h1]; rfl, by omega, e1⟩

set_option maxRecDepth 100000 in
set_option maxHeartbeats 400000 in
theorem containsn_any (w : World) (A : Option Addr) (n c lo hi : Nat) (l : List ByteArray) (hn : n = l.length) (hm : n ≤ 9223372036854775807) (hr : Rd w lo hi A (l.map Value.string)) (hh : hi ≤ w.heap.size) (hsz : ∀ s ∈ l, s.size ≤ 9223372036854775807) :
    Calls Tryz.prog 55 #[.slice A n c, .func (.func 56) #[] #[]] w fun e w' => e = .returned (.bool (l.any noName)) ∧ Ext w w' := by
  have Hn := Lib.hid hn
  have HSz := Lib.hid hsz
  clear hn hsz
  go_enter Tryz.func55, Tryz.ntmps55
  go_wp2_with fail
  refine (idxn_any w A n c lo hi l Hn.out hm hr hh HSz.out).mono ?_
  rintro e w2 ⟨r, rfl, hany, hr1, e2⟩
  have HA := Lib.hid hany
  clear hany
  go_wp2_with fail
  go_ret
  exact ⟨by rw [HA.out]; rfl, e2⟩


theorem pathB_of (s : ByteArray) (h : 0 < s.size) (ps : List ByteArray) (hp : ps.map (·.data.toList) = parts s.data.toList) : pathB s = (decide (ps.length ≤ 4) && !(ps.any noName)) := by
  have h1 : decide (s.size = 0) = false := decide_eq_false (by omega)
  have h2 : ps.length = (parts s.data.toList).length := by rw [← hp, List.length_map]
  have h3 : ∀ qs : List ByteArray, (qs.map (·.data.toList)).all (fun l => nameB ⟨l.toArray⟩) = !(qs.any noName) := by
    intro qs
    induction qs with
    | nil => rfl
    | cons p qs ih =>
      rw [List.map_cons, List.all_cons, List.any_cons, ih, of_list, Bool.not_or, noName, Bool.not_not]
  rw [pathB, h1, ← hp, h3, List.length_map]
  rfl
theorem parts_fit (s : ByteArray) (hs : s.size ≤ 9223372036854775807) (ps : List ByteArray) (hp : ps.map (·.data.toList) = parts s.data.toList) : ∀ p ∈ ps, p.size ≤ 9223372036854775807 := by
  intro p hm
  have := parts_small s.data.toList [] p.data.toList (by rw [show partsGo [] s.data.toList = ps.map (·.data.toList) from hp.symm]; exact List.mem_map_of_mem hm)
  rw [len_data, len_data] at this
  simp at this
  omega
theorem parts_len (s : ByteArray) (ps : List ByteArray) (hp : ps.map (·.data.toList) = parts s.data.toList) : ps.length ≤ s.size + 1 := by
  have h1 : ps.length = (parts s.data.toList).length := by rw [← hp, List.length_map]
  have h2 := partsGo_len s.data.toList []
  have h3 : s.data.toList.count 47 ≤ s.data.toList.length := List.count_le_length
  rw [len_data] at h3
  have h4 : parts s.data.toList = partsGo [] s.data.toList := rfl
  rw [h4] at h1
  omega
set_option maxRecDepth 100000 in
set_option maxHeartbeats 1000000 in
theorem path_any (s : ByteArray) (w : World) (hM : MaxV w) (hs : s.size < 4294967281) : Calls Tryz.prog 25 #[.string s] w fun e w' => e = .returned (.bool (pathB s)) ∧ Ext w w' := by
  by_cases h0 : s.size = 0
  · obtain rfl := empty_of s h0
    have hv := Lib.hid (show pathB ⟨#[]⟩ = true from rfl)
    go_enter Tryz.func25, Tryz.ntmps25
    go_wp2_with fail
    go_ret
    exact ⟨by rw [hv.out]; rfl, Ext.refl _⟩
  · have HS := Lib.hid (split_any s w hM hs _ rfl)
    have b0 : s.toList.isEmpty = false := by
      rw [ByteArray.toList_eq, List.isEmpty_eq_false_iff]
      intro e
      have := len_data s
      rw [e] at this
      exact h0 this.symm
    have HP := Lib.hid (fun ps hp => pathB_of s (by omega) ps hp)
    have HF := Lib.hid (parts_fit s (by omega))
    have HL := Lib.hid (parts_len s)
    have HB := Lib.hid hs
    clear hs
    go_enter Tryz.func25, Tryz.ntmps25
    go_wp2_with fail
    refine HS.out.mono ?_
    rintro e w2 ⟨ps, hp, rfl, hw2⟩
    have hv := Lib.hid (HP.out ps hp)
    have hf := Lib.hid (HF.out ps hp)
    have hl := Lib.hid (HL.out ps hp)
    clear hp
    have hr := rd_new w (ps.map Value.string).toArray 9
    rw [← hw2] at hr
    have e2 : Ext w w2 := by rw [hw2]; (repeat (first | exact Below.refl _ _ | exact Ext.refl _ | assumption | refine Below.drew ?_ | refine below_drewN ?_ _ | refine below_alloc ?_ (by first | exact Nat.le_refl _ | assumption | (simp; done) | omega | (simp; omega)) _ | refine below_ext ?_ (by assumption) (by first | exact Nat.le_refl _ | assumption | (simp; done) | omega | (simp; omega)) | refine Ext.drew ?_ | refine Ext.drewN ?_ _ | refine Ext.alloc ?_ _ | refine Ext.setCell ?_ (by first | assumption | (simp; done) | (simp; omega)) _ | refine Below.setCell ?_ (by first | assumption | (simp; done) | (simp; omega)) _ | refine Ext.trans ?_ (by assumption)))
    have hz : w2.heap.size = w.heap.size + 1 := by rw [hw2]; simp
    have HR := Lib.hid (show Rd w2 w.heap.size w2.heap.size (some ⟨w.heap.size, 0, none⟩) (ps.map Value.string) by rw [hz]; exact hr)
    have HZ := Lib.hid hz
    clear hw2 hr hz
    by_cases h4 : ps.length ≤ 4
    · have hd : decide ((ps.length : Int) ≤ 4) = true := by simp; omega
      have hq : pathB s = !(ps.any noName) := by rw [hv.out, decide_eq_true h4]; rfl
      have hv := Lib.hid hq
      clear hq
      go_wp2_with fail
      refine (containsn_any _ _ ps.length _ w.heap.size w2.heap.size ps rfl (by have := hl.out; have := HB.out; omega) HR.out (Nat.le_refl _) hf.out).mono ?_
      rintro e wa ⟨rfl, ea⟩
      generalize ps.any noName = X at *
      go_wp2_with fail
      go_ret
      exact ⟨by rw [hv.out]; rfl, by (repeat (first | exact Below.refl _ _ | exact Ext.refl _ | assumption | refine Below.drew ?_ | refine below_drewN ?_ _ | refine below_alloc ?_ (by first | exact Nat.le_refl _ | assumption | (simp; done) | omega | (simp; omega)) _ | refine below_ext ?_ (by assumption) (by first | exact Nat.le_refl _ | assumption | (simp; done) | omega | (simp; omega)) | refine Ext.drew ?_ | refine Ext.drewN ?_ _ | refine Ext.alloc ?_ _ | refine Ext.setCell ?_ (by first | assumption | (simp; done) | (simp; omega)) _ | refine Below.setCell ?_ (by first | assumption | (simp; done) | (simp; omega)) _ | refine Ext.trans ?_ (by assumption)))⟩
    · have hd : decide ((ps.length : Int) ≤ 4) = false := by simp; omega
      have hq : pathB s = false := by rw [hv.out, decide_eq_false h4]; rfl
      have hv := Lib.hid hq
      clear hq
      go_wp2_with fail
      go_ret
      exact ⟨by rw [hv.out]; rfl, by (repeat (first | exact Below.refl _ _ | exact Ext.refl _ | assumption | refine Below.drew ?_ | refine below_drewN ?_ _ | refine below_alloc ?_ (by first | exact Nat.le_refl _ | assumption | (simp; done) | omega | (simp; omega)) _ | refine below_ext ?_ (by assumption) (by first | exact Nat.le_refl _ | assumption | (simp; done) | omega | (simp; omega)) | refine Ext.drew ?_ | refine Ext.drewN ?_ _ | refine Ext.alloc ?_ _ | refine Ext.setCell ?_ (by first | assumption | (simp; done) | (simp; omega)) _ | refine Below.setCell ?_ (by first | assumption | (simp; done) | (simp; omega)) _ | refine Ext.trans ?_ (by assumption)))⟩
end Go.Proofs.YtmecjjmlccdppaaGreatDoor
/- A stage: staging.Check and the reference's Stage. -/
namespace Go.Proofs.YtmecjjmlccdppaaGreatDoor
open Go.RowKit
set_option linter.unusedVariables false
set_option linter.unusedSimpArgs false

structure Stg where
  into : ByteArray
  beg : Rec
  bA : Option Addr
  bn : Nat
  bc : Nat
  body : List Blk
  pos : Int
  next : Int
  su : Su
  done : Bool
def Stg.cells (x : Stg) : List Value := .string x.into :: (x.beg.cells ++ (.slice x.bA x.bn x.bc :: .int .i64 x.pos :: .int .i64 x.next :: (x.su.cells ++ [.bool x.done])))
/-- a stage that came in, of moderate bulk -/
structure Stg.ok (w : World) (x : Stg) : Prop where
  into : x.into.size ≤ 100000000
  beg : x.beg.wf
  begR : Rd w 0 w.heap.size x.beg.oA (prps x.beg.own)
  begN : x.beg.on ≤ 100000000
  begS : (sumR x.beg).wf
  bodyN : x.bn = x.body.length
  bodyM : x.bn ≤ 100000000
  bodyR : Rd w 0 w.heap.size x.bA (blks x.body)
  bodyW : ∀ y ∈ x.body, y.wf
  pos : -9223372036854775808 ≤ x.pos ∧ x.pos ≤ 9223372036854775807
  next : -9223372036854775808 ≤ x.next ∧ x.next ≤ 9223372036854775807
  su : x.su.wf
theorem Stg.ok.ext {w w' : World} {x : Stg} (h : x.ok w) (e : Ext w w') : x.ok w' :=
  ⟨h.into, h.beg, Rd.at h.begR e (Nat.le_refl _), h.begN, h.begS, h.bodyN, h.bodyM, Rd.at h.bodyR e (Nat.le_refl _), h.bodyW, h.pos, h.next, h.su⟩
def amt (n : Int) : Bool := decide (0 ≤ n) && decide (n ≤ 1099511627776)
def stB (x : Stg) : Bool := !x.into.toList.isEmpty && (pathB x.into && (x.beg.kind == 1 && (decide (recE x.beg = 0) && (decide (bkE x.body = 0) && (amt x.pos && amt x.next)))))
theorem sizeStg : (Tryz.prog.info? 30).map (·.size) = some 21 := by kernel_rfl
set_option maxRecDepth 100000 in
theorem amount_any (w : World) (a : Int) (h1 : -9223372036854775808 ≤ a) (h2 : a ≤ 9223372036854775807) :
    Calls Tryz.prog 28 #[.int .i64 a] w fun e w' => e = .returned (.bool (amt a)) ∧ Ext w w' := by
  by_cases q1 : 0 ≤ a
  · by_cases q2 : a ≤ 1099511627776
    · have hv := Lib.hid (show amt a = true by rw [amt, decide_eq_true q1, decide_eq_true q2]; rfl)
      go_enter Tryz.func28, Tryz.ntmps28
      go_wp2
      go_ret
      exact ⟨by rw [hv.out]; rfl, Ext.refl _⟩
    · have hv := Lib.hid (show amt a = false by rw [amt, decide_eq_true q1, decide_eq_false q2]; rfl)
      go_enter Tryz.func28, Tryz.ntmps28
      go_wp2
      go_ret
      exact ⟨by rw [hv.out]; rfl, Ext.refl _⟩
  · have hv := Lib.hid (show amt a = false by rw [amt, decide_eq_false q1]; rfl)
    go_enter Tryz.func28, Tryz.ntmps28
    go_wp2
    go_ret
    exact ⟨by rw [hv.out]; rfl, Ext.refl _⟩

def stE (x : Stg) : Int := if stB x then 0 else 9
set_option maxRecDepth 100000 in
set_option maxHeartbeats 8000000 in
theorem scheck_any (w : World) (x : Stg) (hx : x.ok w) (hM : MaxV w) :
    Calls Tryz.prog 11 #[.agg x.cells.toArray] w fun e w' => e = .returned (.int .i64 (stE x)) ∧ Ext w w' := by
  have HPa := Lib.hid (fun W (hW : Ext w W) => path_any x.into W (hM.ext hW) (by have := hx.into; omega))
  have HRe := Lib.hid (fun W (hW : Ext w W) => check_any W x.beg (Rd.at hx.begR hW (Nat.le_refl _)) hx.beg)
  have HBk := Lib.hid (fun W (hW : Ext w W) => bcheck_any W x.bA x.bn x.bc x.body hx.bodyN (by have := hx.bodyM; omega) (Rd.at hx.bodyR hW (Nat.le_refl _)) hx.bodyW)
  have HA1 := Lib.hid (fun W => amount_any W x.pos hx.pos.1 hx.pos.2)
  have HA2 := Lib.hid (fun W => amount_any W x.next hx.next.1 hx.next.2)
  have HV := Lib.hid (show stE x = if stB x then 0 else 9 from rfl)
  have HS := Lib.hid (show stB x = (!x.into.toList.isEmpty && (pathB x.into && (x.beg.kind == 1 && (decide (recE x.beg = 0) && (decide (bkE x.body = 0) && (amt x.pos && amt x.next)))))) from rfl)
  clear hx hM
  generalize stE x = V at *
  generalize stB x = SB at *
  obtain ⟨into, ⟨kind, name, frm, guid, oA, on, oc, own, index, count, data, s0, s1, s2, s3⟩, bA, bn, bc, body, pos, next, ⟨ua, ub, uc, ud⟩, dn⟩ := x
  dsimp only at HPa HBk HA1 HA2 HS
  simp only [Rec.cells] at HRe
  generalize hrE : recE _ = RE at HRe HS
  clear hrE
  generalize hbE : bkE body = BE at HBk HS
  clear hbE
  by_cases c1 : into.size = 0
  · obtain rfl := empty_of into c1
    have e0 : (⟨#[]⟩ : ByteArray).toList.isEmpty = true := by rw [ByteArray.toList_eq]; rfl
    have HF := Lib.hid (show V = 9 by rw [HV.out, HS.out, e0]; rfl)
    clear c1 e0
    simp only [Stg.cells, Rec.cells, Su.cells, List.cons_append, List.nil_append]; go_enter Tryz.func11, Tryz.ntmps11; go_upto_region 1 with fail; generalize hwH : World.alloc w _ = w1; have HH := Lib.hid (Heap.one hwH); clear hwH; go_wp2_with (first | (go_big_want; refine sh_load HH.out sizeRec (by kernel_rfl) rfl rfl 0 rfl (Nat.le_of_ble_eq_true rfl) ?_) | (go_big_want; refine sh_load1 HH.out rfl rfl 0 rfl rfl (by decide +kernel) ?_) | (refine shl_load1 HH.out rfl rfl rfl 0 rfl rfl (by decide +kernel) ?_) | (go_at_call 25; (with_reducible refine (HPa.out _ HH.out.ext).mono ?_); rintro e wC ⟨rfl, eC⟩; have HHn := Lib.hid (HH.out.later eC); clear HH eC; have HH := HHn; clear HHn) | (go_at_call 26; (with_reducible refine (HRe.out _ HH.out.ext).mono ?_); rintro e wC ⟨rfl, eC⟩; have HHn := Lib.hid (HH.out.later eC); clear HH eC; have HH := HHn; clear HHn) | (go_at_call 27; (with_reducible refine (HBk.out _ HH.out.ext).mono ?_); rintro e wC ⟨rfl, eC⟩; have HHn := Lib.hid (HH.out.later eC); clear HH eC; have HH := HHn; clear HHn) | (go_at_call 28; (with_reducible refine (HA1.out _).mono ?_); rintro e wC ⟨rfl, eC⟩; have HHn := Lib.hid (HH.out.later eC); clear HH eC; have HH := HHn; clear HHn) | (go_at_call 28; (with_reducible refine (HA2.out _).mono ?_); rintro e wC ⟨rfl, eC⟩; have HHn := Lib.hid (HH.out.later eC); clear HH eC; have HH := HHn; clear HHn)); go_ret; exact ⟨by rw [HF.out]; rfl, HH.out.ext⟩
  · have b0 : into.toList.isEmpty = false := by
      rw [ByteArray.toList_eq, List.isEmpty_eq_false_iff]
      intro e
      have := len_data into
      rw [e] at this
      exact c1 this.symm
    clear c1
    rw [b0, Bool.not_false, Bool.true_and] at HS
    by_cases c2 : pathB into = true
    · rw [c2, Bool.true_and] at HS
      by_cases c3 : kind = 1
      · subst c3
        rw [show ((1 : Int) == 1) = true from rfl, Bool.true_and] at HS
        by_cases c4 : RE = 0
        · subst c4
          rw [decide_eq_true (rfl : (0 : Int) = 0), Bool.true_and] at HS
          by_cases c5 : BE = 0
          · subst c5
            rw [decide_eq_true (rfl : (0 : Int) = 0), Bool.true_and] at HS
            by_cases c6 : amt pos = true
            · rw [c6, Bool.true_and] at HS
              by_cases c7 : amt next = true
              · have HF := Lib.hid (show V = 0 by rw [HV.out, HS.out, c7]; rfl)
                simp only [Stg.cells, Rec.cells, Su.cells, List.cons_append, List.nil_append]; go_enter Tryz.func11, Tryz.ntmps11; go_upto_region 1 with fail; generalize hwH : World.alloc w _ = w1; have HH := Lib.hid (Heap.one hwH); clear hwH; go_wp2_with (first | (go_big_want; refine sh_load HH.out sizeRec (by kernel_rfl) rfl rfl 0 rfl (Nat.le_of_ble_eq_true rfl) ?_) | (go_big_want; refine sh_load1 HH.out rfl rfl 0 rfl rfl (by decide +kernel) ?_) | (refine shl_load1 HH.out rfl rfl rfl 0 rfl rfl (by decide +kernel) ?_) | (go_at_call 25; (with_reducible refine (HPa.out _ HH.out.ext).mono ?_); rintro e wC ⟨rfl, eC⟩; have HHn := Lib.hid (HH.out.later eC); clear HH eC; have HH := HHn; clear HHn) | (go_at_call 26; (with_reducible refine (HRe.out _ HH.out.ext).mono ?_); rintro e wC ⟨rfl, eC⟩; have HHn := Lib.hid (HH.out.later eC); clear HH eC; have HH := HHn; clear HHn) | (go_at_call 27; (with_reducible refine (HBk.out _ HH.out.ext).mono ?_); rintro e wC ⟨rfl, eC⟩; have HHn := Lib.hid (HH.out.later eC); clear HH eC; have HH := HHn; clear HHn) | (go_at_call 28; (with_reducible refine (HA1.out _).mono ?_); rintro e wC ⟨rfl, eC⟩; have HHn := Lib.hid (HH.out.later eC); clear HH eC; have HH := HHn; clear HHn) | (go_at_call 28; (with_reducible refine (HA2.out _).mono ?_); rintro e wC ⟨rfl, eC⟩; have HHn := Lib.hid (HH.out.later eC); clear HH eC; have HH := HHn; clear HHn)); go_ret; exact ⟨by rw [HF.out]; rfl, HH.out.ext⟩
              · rw [Bool.not_eq_true] at c7
                have HF := Lib.hid (show V = 9 by rw [HV.out, HS.out, c7]; rfl)
                simp only [Stg.cells, Rec.cells, Su.cells, List.cons_append, List.nil_append]; go_enter Tryz.func11, Tryz.ntmps11; go_upto_region 1 with fail; generalize hwH : World.alloc w _ = w1; have HH := Lib.hid (Heap.one hwH); clear hwH; go_wp2_with (first | (go_big_want; refine sh_load HH.out sizeRec (by kernel_rfl) rfl rfl 0 rfl (Nat.le_of_ble_eq_true rfl) ?_) | (go_big_want; refine sh_load1 HH.out rfl rfl 0 rfl rfl (by decide +kernel) ?_) | (refine shl_load1 HH.out rfl rfl rfl 0 rfl rfl (by decide +kernel) ?_) | (go_at_call 25; (with_reducible refine (HPa.out _ HH.out.ext).mono ?_); rintro e wC ⟨rfl, eC⟩; have HHn := Lib.hid (HH.out.later eC); clear HH eC; have HH := HHn; clear HHn) | (go_at_call 26; (with_reducible refine (HRe.out _ HH.out.ext).mono ?_); rintro e wC ⟨rfl, eC⟩; have HHn := Lib.hid (HH.out.later eC); clear HH eC; have HH := HHn; clear HHn) | (go_at_call 27; (with_reducible refine (HBk.out _ HH.out.ext).mono ?_); rintro e wC ⟨rfl, eC⟩; have HHn := Lib.hid (HH.out.later eC); clear HH eC; have HH := HHn; clear HHn) | (go_at_call 28; (with_reducible refine (HA1.out _).mono ?_); rintro e wC ⟨rfl, eC⟩; have HHn := Lib.hid (HH.out.later eC); clear HH eC; have HH := HHn; clear HHn) | (go_at_call 28; (with_reducible refine (HA2.out _).mono ?_); rintro e wC ⟨rfl, eC⟩; have HHn := Lib.hid (HH.out.later eC); clear HH eC; have HH := HHn; clear HHn)); go_ret; exact ⟨by rw [HF.out]; rfl, HH.out.ext⟩
            · rw [Bool.not_eq_true] at c6
              have HF := Lib.hid (show V = 9 by rw [HV.out, HS.out, c6]; rfl)
              simp only [Stg.cells, Rec.cells, Su.cells, List.cons_append, List.nil_append]; go_enter Tryz.func11, Tryz.ntmps11; go_upto_region 1 with fail; generalize hwH : World.alloc w _ = w1; have HH := Lib.hid (Heap.one hwH); clear hwH; go_wp2_with (first | (go_big_want; refine sh_load HH.out sizeRec (by kernel_rfl) rfl rfl 0 rfl (Nat.le_of_ble_eq_true rfl) ?_) | (go_big_want; refine sh_load1 HH.out rfl rfl 0 rfl rfl (by decide +kernel) ?_) | (refine shl_load1 HH.out rfl rfl rfl 0 rfl rfl (by decide +kernel) ?_) | (go_at_call 25; (with_reducible refine (HPa.out _ HH.out.ext).mono ?_); rintro e wC ⟨rfl, eC⟩; have HHn := Lib.hid (HH.out.later eC); clear HH eC; have HH := HHn; clear HHn) | (go_at_call 26; (with_reducible refine (HRe.out _ HH.out.ext).mono ?_); rintro e wC ⟨rfl, eC⟩; have HHn := Lib.hid (HH.out.later eC); clear HH eC; have HH := HHn; clear HHn) | (go_at_call 27; (with_reducible refine (HBk.out _ HH.out.ext).mono ?_); rintro e wC ⟨rfl, eC⟩; have HHn := Lib.hid (HH.out.later eC); clear HH eC; have HH := HHn; clear HHn) | (go_at_call 28; (with_reducible refine (HA1.out _).mono ?_); rintro e wC ⟨rfl, eC⟩; have HHn := Lib.hid (HH.out.later eC); clear HH eC; have HH := HHn; clear HHn) | (go_at_call 28; (with_reducible refine (HA2.out _).mono ?_); rintro e wC ⟨rfl, eC⟩; have HHn := Lib.hid (HH.out.later eC); clear HH eC; have HH := HHn; clear HHn)); go_ret; exact ⟨by rw [HF.out]; rfl, HH.out.ext⟩
          · have d5 : (BE != 0) = true := by simpa using c5
            have HF := Lib.hid (show V = 9 by rw [HV.out, HS.out, decide_eq_false c5]; rfl)
            clear c5
            simp only [Stg.cells, Rec.cells, Su.cells, List.cons_append, List.nil_append]; go_enter Tryz.func11, Tryz.ntmps11; go_upto_region 1 with fail; generalize hwH : World.alloc w _ = w1; have HH := Lib.hid (Heap.one hwH); clear hwH; go_wp2_with (first | (go_big_want; refine sh_load HH.out sizeRec (by kernel_rfl) rfl rfl 0 rfl (Nat.le_of_ble_eq_true rfl) ?_) | (go_big_want; refine sh_load1 HH.out rfl rfl 0 rfl rfl (by decide +kernel) ?_) | (refine shl_load1 HH.out rfl rfl rfl 0 rfl rfl (by decide +kernel) ?_) | (go_at_call 25; (with_reducible refine (HPa.out _ HH.out.ext).mono ?_); rintro e wC ⟨rfl, eC⟩; have HHn := Lib.hid (HH.out.later eC); clear HH eC; have HH := HHn; clear HHn) | (go_at_call 26; (with_reducible refine (HRe.out _ HH.out.ext).mono ?_); rintro e wC ⟨rfl, eC⟩; have HHn := Lib.hid (HH.out.later eC); clear HH eC; have HH := HHn; clear HHn) | (go_at_call 27; (with_reducible refine (HBk.out _ HH.out.ext).mono ?_); rintro e wC ⟨rfl, eC⟩; have HHn := Lib.hid (HH.out.later eC); clear HH eC; have HH := HHn; clear HHn) | (go_at_call 28; (with_reducible refine (HA1.out _).mono ?_); rintro e wC ⟨rfl, eC⟩; have HHn := Lib.hid (HH.out.later eC); clear HH eC; have HH := HHn; clear HHn) | (go_at_call 28; (with_reducible refine (HA2.out _).mono ?_); rintro e wC ⟨rfl, eC⟩; have HHn := Lib.hid (HH.out.later eC); clear HH eC; have HH := HHn; clear HHn)); go_ret; exact ⟨by rw [HF.out]; rfl, HH.out.ext⟩
        · have d4 : (RE != 0) = true := by simpa using c4
          have HF := Lib.hid (show V = 9 by rw [HV.out, HS.out, decide_eq_false c4]; rfl)
          clear c4
          simp only [Stg.cells, Rec.cells, Su.cells, List.cons_append, List.nil_append]; go_enter Tryz.func11, Tryz.ntmps11; go_upto_region 1 with fail; generalize hwH : World.alloc w _ = w1; have HH := Lib.hid (Heap.one hwH); clear hwH; go_wp2_with (first | (go_big_want; refine sh_load HH.out sizeRec (by kernel_rfl) rfl rfl 0 rfl (Nat.le_of_ble_eq_true rfl) ?_) | (go_big_want; refine sh_load1 HH.out rfl rfl 0 rfl rfl (by decide +kernel) ?_) | (refine shl_load1 HH.out rfl rfl rfl 0 rfl rfl (by decide +kernel) ?_) | (go_at_call 25; (with_reducible refine (HPa.out _ HH.out.ext).mono ?_); rintro e wC ⟨rfl, eC⟩; have HHn := Lib.hid (HH.out.later eC); clear HH eC; have HH := HHn; clear HHn) | (go_at_call 26; (with_reducible refine (HRe.out _ HH.out.ext).mono ?_); rintro e wC ⟨rfl, eC⟩; have HHn := Lib.hid (HH.out.later eC); clear HH eC; have HH := HHn; clear HHn) | (go_at_call 27; (with_reducible refine (HBk.out _ HH.out.ext).mono ?_); rintro e wC ⟨rfl, eC⟩; have HHn := Lib.hid (HH.out.later eC); clear HH eC; have HH := HHn; clear HHn) | (go_at_call 28; (with_reducible refine (HA1.out _).mono ?_); rintro e wC ⟨rfl, eC⟩; have HHn := Lib.hid (HH.out.later eC); clear HH eC; have HH := HHn; clear HHn) | (go_at_call 28; (with_reducible refine (HA2.out _).mono ?_); rintro e wC ⟨rfl, eC⟩; have HHn := Lib.hid (HH.out.later eC); clear HH eC; have HH := HHn; clear HHn)); go_ret; exact ⟨by rw [HF.out]; rfl, HH.out.ext⟩
      · have d3 : (kind != 1) = true := by simpa using c3
        have HF := Lib.hid (show V = 9 by rw [HV.out, HS.out, show (kind == 1) = false by simpa using c3]; rfl)
        clear c3
        simp only [Stg.cells, Rec.cells, Su.cells, List.cons_append, List.nil_append]; go_enter Tryz.func11, Tryz.ntmps11; go_upto_region 1 with fail; generalize hwH : World.alloc w _ = w1; have HH := Lib.hid (Heap.one hwH); clear hwH; go_wp2_with (first | (go_big_want; refine sh_load HH.out sizeRec (by kernel_rfl) rfl rfl 0 rfl (Nat.le_of_ble_eq_true rfl) ?_) | (go_big_want; refine sh_load1 HH.out rfl rfl 0 rfl rfl (by decide +kernel) ?_) | (refine shl_load1 HH.out rfl rfl rfl 0 rfl rfl (by decide +kernel) ?_) | (go_at_call 25; (with_reducible refine (HPa.out _ HH.out.ext).mono ?_); rintro e wC ⟨rfl, eC⟩; have HHn := Lib.hid (HH.out.later eC); clear HH eC; have HH := HHn; clear HHn) | (go_at_call 26; (with_reducible refine (HRe.out _ HH.out.ext).mono ?_); rintro e wC ⟨rfl, eC⟩; have HHn := Lib.hid (HH.out.later eC); clear HH eC; have HH := HHn; clear HHn) | (go_at_call 27; (with_reducible refine (HBk.out _ HH.out.ext).mono ?_); rintro e wC ⟨rfl, eC⟩; have HHn := Lib.hid (HH.out.later eC); clear HH eC; have HH := HHn; clear HHn) | (go_at_call 28; (with_reducible refine (HA1.out _).mono ?_); rintro e wC ⟨rfl, eC⟩; have HHn := Lib.hid (HH.out.later eC); clear HH eC; have HH := HHn; clear HHn) | (go_at_call 28; (with_reducible refine (HA2.out _).mono ?_); rintro e wC ⟨rfl, eC⟩; have HHn := Lib.hid (HH.out.later eC); clear HH eC; have HH := HHn; clear HHn)); go_ret; exact ⟨by rw [HF.out]; rfl, HH.out.ext⟩
    · rw [Bool.not_eq_true] at c2
      have HF := Lib.hid (show V = 9 by rw [HV.out, HS.out, c2]; rfl)
      simp only [Stg.cells, Rec.cells, Su.cells, List.cons_append, List.nil_append]; go_enter Tryz.func11, Tryz.ntmps11; go_upto_region 1 with fail; generalize hwH : World.alloc w _ = w1; have HH := Lib.hid (Heap.one hwH); clear hwH; go_wp2_with (first | (go_big_want; refine sh_load HH.out sizeRec (by kernel_rfl) rfl rfl 0 rfl (Nat.le_of_ble_eq_true rfl) ?_) | (go_big_want; refine sh_load1 HH.out rfl rfl 0 rfl rfl (by decide +kernel) ?_) | (refine shl_load1 HH.out rfl rfl rfl 0 rfl rfl (by decide +kernel) ?_) | (go_at_call 25; (with_reducible refine (HPa.out _ HH.out.ext).mono ?_); rintro e wC ⟨rfl, eC⟩; have HHn := Lib.hid (HH.out.later eC); clear HH eC; have HH := HHn; clear HHn) | (go_at_call 26; (with_reducible refine (HRe.out _ HH.out.ext).mono ?_); rintro e wC ⟨rfl, eC⟩; have HHn := Lib.hid (HH.out.later eC); clear HH eC; have HH := HHn; clear HHn) | (go_at_call 27; (with_reducible refine (HBk.out _ HH.out.ext).mono ?_); rintro e wC ⟨rfl, eC⟩; have HHn := Lib.hid (HH.out.later eC); clear HH eC; have HH := HHn; clear HHn) | (go_at_call 28; (with_reducible refine (HA1.out _).mono ?_); rintro e wC ⟨rfl, eC⟩; have HHn := Lib.hid (HH.out.later eC); clear HH eC; have HH := HHn; clear HHn) | (go_at_call 28; (with_reducible refine (HA2.out _).mono ?_); rintro e wC ⟨rfl, eC⟩; have HHn := Lib.hid (HH.out.later eC); clear HH eC; have HH := HHn; clear HHn)); go_ret; exact ⟨by rw [HF.out]; rfl, HH.out.ext⟩
end Go.Proofs.YtmecjjmlccdppaaGreatDoor
/- slices.Clone and the reference's Own over blocks; the order of a block and an index. -/
namespace Go.Proofs.YtmecjjmlccdppaaGreatDoor
open Go.RowKit
set_option linter.unusedVariables false
set_option linter.unusedSimpArgs false

set_option maxHeartbeats 400000 in
theorem bclone_any (w : World) (A : Option Addr) (n c : Nat) (xs : List Blk) (hn : n = xs.length) (hr : Rd w 0 w.heap.size A (blks xs)) (hb : n ≤ 100000000000) :
    Calls Tryz.prog 29 #[.slice A n c] w fun e w' => ∃ v, e = .returned v ∧ w'.ownsRow w.heap.size 46 2 v n (blks xs) ∧ Ext w w' := by
  have qT : ∀ (w : World) (a : Option Addr) (n c n' c' : Nat), (binOp .eql 28 (.slice a n c) (.slice none n' c')).run Tryz.prog w = .ok (.bool a.isNone) w := fun w a n c n' c' => Lib.run_eql_slice_nil w _ _ a n c n' c' Tryz.underlying28
  obtain ⟨i0, hi0, hz0, hz1, hz2⟩ := info_parts infoB
  have hmx : n ≤ maxLen := by simp only [maxLen]; omega
  have hl : (blks xs).length = n * 2 := by rw [blks_length, hn]
  have Hn := Lib.hid hn
  clear hn
  cases A with
  | none =>
    have : n = 0 := by
      rcases Nat.eq_zero_or_pos n with h | h
      · exact h
      · obtain ⟨b, o, hh, _⟩ := hr (fun e => by rw [e] at hl; simp at hl; omega)
        cases hh
    subst this
    have : blks xs = [] := List.eq_nil_of_length_eq_zero (by simpa using hl)
    rw [this]
    clear hl
    go_enter Tryz.func29, Tryz.ntmps29
    go_wp2
    go_ret
    exact ⟨_, rfl, World.ownsRow_nil _ _ _ _, Ext.refl _⟩
  | some ad =>
    go_enter Tryz.func29, Tryz.ntmps29
    go_wp2_with
      (at_builtin
       refine list_app _ rfl (.tmp 5) (.tmp 6) _ rfl 46 i0 _ 2 24 Tryz.underlying28 hi0 hz0 hz1 hz2 rfl (by omega) w.heap.size (.slice (some ⟨w.heap.size, 0, none⟩) 0 0) 0 [] rfl
         (World.ownsRow_lit w #[] 0 (Nat.le_refl _) (Nat.zero_le _) rfl) 0 w.heap.size (some ad) n c (blks xs) rfl hl (hr.alloc (Nat.le_refl _) _) (blks_one _) (by simpa using hmx) (by omega) (by simp) ?_
       intro v1 w1 hown1 he1 _ hg1)
    go_ret
    refine ⟨v1, rfl, by simpa using hown1, below_grown ((Below.refl _ _).alloc (Nat.le_refl _) _) hg1 (by simp) (.inr ⟨_, rfl, Nat.le_refl _⟩)⟩

set_option maxHeartbeats 400000 in
theorem rown_any (w : World) (A : Option Addr) (n c : Nat) (xs : List Blk) (hn : n = xs.length) (hr : Rd w 0 w.heap.size A (blks xs)) (hb : n ≤ 100000000000) :
    Calls Tryz.prog 16 #[.slice A n c] w fun e w' => ∃ v, e = .returned v ∧ w'.ownsRow w.heap.size 46 2 v n (blks xs) ∧ Ext w w' := by
  obtain ⟨i0, hi0, hz0, hz1, hz2⟩ := info_parts infoB
  have hmx : n ≤ maxLen := by simp only [maxLen]; omega
  have hl : (blks xs).length = n * 2 := by rw [blks_length, hn]
  have Hl := Lib.hid hl
  have HR := Lib.hid hr
  clear hn hl hr
  obtain ⟨vx, hvx⟩ : ∃ vx, vx = Value.slice A n c := ⟨_, rfl⟩
  rw [← hvx]
  have Hvx := Lib.hid hvx
  clear hvx
  go_enter Tryz.func16, Tryz.ntmps16
  go_wp2_with
    (at_builtin
     refine list_app0 _ rfl (.tmp 4) (.tmp 5) _ rfl 46 i0 _ 2 24 Tryz.underlying28 hi0 hz0 hz1 hz2 rfl (by omega) rfl 0 w.heap.size A n c (blks xs) Hvx.out Hl.out HR.out (blks_one _) hmx (by omega) ?_
     intro v1 w1 hown1 he1)
  go_ret
  exact ⟨v1, rfl, hown1, he1⟩

/-- the order of a block and an index -/
def byO (a b : Int) : Int := if a < b then -1 else if b < a then 1 else 0
end Go.Proofs.YtmecjjmlccdppaaGreatDoor
