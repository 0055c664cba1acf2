/- The walks of ContainsFunc over texts, fields.Write, the example 'alive'. -/
import Derived.Test.YtpbbjmfhcgcldaaDoorFld
namespace Go.Proofs.YtpbbjmfhcgcldaaDoor
open Go.RowKit

def longB (s : ByteArray) : Bool := decide (65536 < s.size)
set_option maxRecDepth 100000 in
set_option maxHeartbeats 400000 in
theorem long_any (s : ByteArray) (w : World) : Calls Tryd.prog 32 #[.string s] w fun e w' => e = .returned (.bool (longB s)) ∧ Ext w w' := by
  have h : Hid (longB s = decide ((65536 : Int) < (s.size : Int))) := by
    have e : (65536 < s.size) = ((65536 : Int) < (s.size : Int)) := by rw [eq_iff_iff]; omega
    simp only [Hid, longB, e]
  go_enter Tryd.func32, Tryd.ntmps32
  go_wp2_with fail
  go_ret
  exact ⟨by rw [h.out]; rfl, Ext.refl _⟩
/-- a row of texts, text by text -/
theorem rd_str {w : World} {lo hi : Nat} {A : Option Addr} {l : List ByteArray} (h : Rd w lo hi A (l.map Value.string)) {k : Nat} (hk : k < l.length) :
    ∃ b o, A = some ⟨b, o, none⟩ ∧ lo ≤ b ∧ b < hi ∧ w.cell? ⟨b, o + k, none⟩ = some (.string l[k]) := by
  obtain ⟨b, o, h1, h2, h3, h4⟩ := h (fun e => by have : (l.map Value.string).length = l.length := by simp
                                                  rw [e] at this; simp at this; omega)
  exact ⟨b, o, h1, h2, h3, h4 k _ (by rw [List.getElem?_map, List.getElem?_eq_getElem hk]; rfl)⟩

/-- the first long one, or -1 -/
def IdxOk (l : List ByteArray) (w : World) (e : Ending) (w' : World) : Prop :=
  ∃ r : Int, e = .returned (.int .i64 r) ∧ l.any longB = decide (0 ≤ r) ∧ -1 ≤ r ∧ Ext w w'
set_option maxRecDepth 100000 in
set_option maxHeartbeats 400000 in
theorem idx_any (w : World) (A : Option Addr) (n c lo hi : Nat) (l : List ByteArray) (hn : n = l.length) (hm : n ≤ 9223372036854775807) (hr : Rd w lo hi A (l.map Value.string)) (hh : hi ≤ w.heap.size) :
    Calls Tryd.prog 40 #[.slice A n c, .func (.func 32) #[] #[]] w (IdxOk l w) := by
  have Hn := Lib.hid hn
  clear hn
  go_enter Tryd.func40, Tryd.ntmps40
  go_wp2_with fail
  go_loopw [8] (fun i wr => ∃ k : Nat, k ≤ n ∧ i = .int .i64 k ∧ (l.take k).any longB = false ∧ Ext w wr) (fun i _ => n - (intOf i).toNat)
  case atStart => exact ⟨0, Nat.zero_le _, rfl, rfl, Ext.refl _⟩
  case round =>
    obtain ⟨k, hk, rfl, hno, e1⟩ := hrel
    have HK := Lib.hid hno
    clear hno
    by_cases hlt : k < n
    · obtain ⟨b1, o1, rfl, _, _, f0⟩ := rd_str (hr.ext e1 hh) (k := k) (by rw [← Hn.out]; omega)
      have hl : k < l.length := by rw [← Hn.out]; omega
      obtain ⟨y, hy⟩ : ∃ y, y = l[k]'hl := ⟨_, rfl⟩
      rw [← hy] at f0
      have HY := Lib.hid hy
      clear hy
      go_wp2_with fail
      refine (long_any y _).mono ?_
      rintro e w2 ⟨rfl, e2⟩
      cases ho : longB y
      · go_wp2_with fail
        go_roundw
        case rel =>
          refine ⟨k + 1, by omega, by go_num, ?_, by (repeat (first | exact Below.refl _ _ | exact Ext.refl _ | assumption | refine Below.drew ?_ | refine below_drewN ?_ _ | refine below_alloc ?_ (by first | exact Nat.le_refl _ | assumption | (simp; done) | omega | (simp; omega)) _ | refine below_ext ?_ (by assumption) (by first | exact Nat.le_refl _ | assumption | (simp; done) | omega | (simp; omega)) | refine Ext.drew ?_ | refine Ext.drewN ?_ _ | refine Ext.alloc ?_ _ | refine Ext.setCell ?_ (by first | assumption | (simp; done) | (simp; omega)) _ | refine Below.setCell ?_ (by first | assumption | (simp; done) | (simp; omega)) _ | refine Ext.trans ?_ (by assumption)))⟩
          rw [List.take_succ_eq_append_getElem hl, List.any_append, HK.out, ← HY.out]
          simp [ho]
        case measure => simp [intOf]; omega
      · go_wp2_with fail
        go_ret
        refine ⟨k, rfl, ?_, by omega, by (repeat (first | exact Below.refl _ _ | exact Ext.refl _ | assumption | refine Below.drew ?_ | refine below_drewN ?_ _ | refine below_alloc ?_ (by first | exact Nat.le_refl _ | assumption | (simp; done) | omega | (simp; omega)) _ | refine below_ext ?_ (by assumption) (by first | exact Nat.le_refl _ | assumption | (simp; done) | omega | (simp; omega)) | refine Ext.drew ?_ | refine Ext.drewN ?_ _ | refine Ext.alloc ?_ _ | refine Ext.setCell ?_ (by first | assumption | (simp; done) | (simp; omega)) _ | refine Below.setCell ?_ (by first | assumption | (simp; done) | (simp; omega)) _ | refine Ext.trans ?_ (by assumption)))⟩
        have h1 : l.any longB = true := List.any_eq_true.2 ⟨y, by rw [HY.out]; exact List.getElem_mem _, ho⟩
        rw [h1]
        simp
    · go_wp2_with fail
      go_ret
      obtain rfl : k = n := by omega
      have h1 := HK.out
      rw [List.take_of_length_le (by rw [← Hn.out]; exact Nat.le_refl _)] at h1
      exact ⟨-1, rfl, by rw [h1]; rfl, by omega, e1⟩

set_option maxRecDepth 100000 in
set_option maxHeartbeats 400000 in
theorem contains_any (w : World) (A : Option Addr) (n c lo hi : Nat) (l : List ByteArray) (hn : n = l.length) (hm : n ≤ 9223372036854775807) (hr : Rd w lo hi A (l.map Value.string)) (hh : hi ≤ w.heap.size) :
    Calls Tryd.prog 31 #[.slice A n c, .func (.func 32) #[] #[]] w fun e w' => e = .returned (.bool (l.any longB)) ∧ Ext w w' := by
  have Hn := Lib.hid hn
  clear hn
  go_enter Tryd.func31, Tryd.ntmps31
  go_wp2_with fail
  refine (idx_any w A n c lo hi l Hn.out hm hr hh).mono ?_
  rintro e w2 ⟨r, rfl, hany, hr1, e2⟩
  have HA := Lib.hid hany
  clear hany
  go_wp2_with fail
  go_ret
  exact ⟨by rw [HA.out]; rfl, e2⟩

def wE (l : List ByteArray) : Int := if 1024 < l.length then 3 else if l.any longB then 5 else 0
def one (s : ByteArray) : List UInt8 := puts s.size 3 ++ s.data.toList
def flat (l : List ByteArray) : List UInt8 := puts l.length 2 ++ l.flatMap one
def wB (l : List ByteArray) : List UInt8 := if wE l = 0 then flat l else []
def acc (l : List ByteArray) (k : Nat) : List UInt8 := puts l.length 2 ++ (l.take k).flatMap one
theorem acc_succ (l : List ByteArray) (k : Nat) (hk : k < l.length) : acc l (k + 1) = acc l k ++ puts l[k].size 3 ++ l[k].data.toList := by
  unfold acc
  rw [List.take_succ_eq_append_getElem hk, List.flatMap_append]
  simp [one, List.append_assoc]
theorem acc_len (l : List ByteArray) (k : Nat) (hl : l.any longB = false) (hk : k ≤ l.length) : (acc l k).length ≤ 2 + k * 65539 := by
  induction k with
  | zero => simp [acc, puts_length]
  | succ k ih =>
    have h1 := ih (by omega)
    have h2 : longB (l[k]'(by omega)) = false := by
      have := List.any_eq_false.1 hl (l[k]'(by omega)) (List.getElem_mem _)
      simpa using this
    rw [acc_succ l k (by omega), List.length_append, List.length_append, puts_length, len_data]
    simp only [longB, decide_eq_false_iff_not] at h2
    omega

def WriteOk (l : List ByteArray) (w : World) (e : Ending) (w' : World) : Prop :=
  ∃ v, e = .returned (.tuple #[v, .int .i64 (wE l)]) ∧ w'.ownsRow w.heap.size 5 1 v (wB l).length (bytes (wB l)) ∧ Ext w w'
theorem strCells_eq (s : ByteArray) : Lib.strCells s = bytes s.data.toList := rfl

set_option maxRecDepth 100000 in
set_option maxHeartbeats 1000000 in
theorem write_any (w : World) (A : Option Addr) (n c : Nat) (l : List ByteArray) (hn : n = l.length) (hm : n ≤ 9223372036854775807) (hr : Rd w 0 w.heap.size A (l.map Value.string)) :
    Calls Tryd.prog 22 #[.slice A n c] w (WriteOk l w) := by
  obtain ⟨i0, hi0, hz0, hz1, hz2⟩ := info_parts info5
  have Hn := Lib.hid hn
  by_cases hbig : 1024 < n
  · have hv : Hid (wE l = 3 ∧ wB l = []) := by
      have : wE l = 3 := by rw [wE, if_pos (by omega)]
      exact ⟨this, by rw [wB, this]; rfl⟩
    clear hn
    go_enter Tryd.func22, Tryd.ntmps22
    go_wp2_with fail
    go_ret2
    exact ⟨.slice none 0 0, by rw [hv.out.1]; rfl, by rw [hv.out.2]; exact World.ownsRow_nil _ _ _ _, Ext.refl _⟩
  · cases hlong : l.any longB
    · have hv : Hid (wE l = 0 ∧ wB l = acc l n) := by
        have : wE l = 0 := by rw [wE, if_neg (by omega), hlong]; rfl
        refine ⟨this, ?_⟩
        rw [wB, this, if_pos rfl, acc, List.take_of_length_le (by omega)]
        rfl
      have HL := Lib.hid hlong
      clear hn hlong
      go_enter Tryd.func22, Tryd.ntmps22
      go_wp2_with fail
      refine (contains_any w A n c 0 w.heap.size l Hn.out hm hr (Nat.le_refl _)).mono ?_
      rintro e w2 ⟨rfl, e2⟩
      rw [HL.out]
      go_wp2_with fail
      refine (put_any n _ 2 (by omega) rfl w2 (by omega) (by omega)).mono ?_
      rintro e w3 ⟨v3, rfl, hown3, e3⟩
      have e4 : Ext w w3 := by (repeat (first | exact Below.refl _ _ | exact Ext.refl _ | assumption | refine Below.drew ?_ | refine below_drewN ?_ _ | refine below_alloc ?_ (by first | exact Nat.le_refl _ | assumption | (simp; done) | omega | (simp; omega)) _ | refine below_ext ?_ (by assumption) (by first | exact Nat.le_refl _ | assumption | (simp; done) | omega | (simp; omega)) | refine Ext.drew ?_ | refine Ext.drewN ?_ _ | refine Ext.alloc ?_ _ | refine Ext.setCell ?_ (by first | assumption | (simp; done) | (simp; omega)) _ | refine Below.setCell ?_ (by first | assumption | (simp; done) | (simp; omega)) _ | refine Ext.trans ?_ (by assumption)))
      have hown4 : w3.ownsRow w.heap.size 5 1 v3 2 (bytes (acc l 0)) := by
        have h : acc l 0 = puts n 2 := by rw [acc, ← Hn.out]; simp
        rw [h]
        exact own_lower hown3 e2.size
      clear hown3 e2 e3
      go_wp2_with fail
      go_loopw [4, 19] (fun v i wr => ∃ k : Nat, k ≤ n ∧ i = .int .i64 k ∧ wr.ownsRow w.heap.size 5 1 v (acc l k).length (bytes (acc l k)) ∧ Ext w wr) (fun _ i _ => n - (intOf i).toNat)
      case atStart => exact ⟨0, Nat.zero_le _, rfl, by have h : (acc l 0).length = 2 := by simp [acc, puts_length]
                                                       rw [h]; exact hown4, e4⟩
      case round =>
        clear hown4 e4
        obtain ⟨k, hk, rfl, hown, e5⟩ := hrel
        by_cases hlt : k < n
        · obtain ⟨b1, o1, rfl, _, _, f0⟩ := rd_str (hr.at (w' := wr) (by (repeat (first | exact Below.refl _ _ | exact Ext.refl _ | assumption | refine Below.drew ?_ | refine below_drewN ?_ _ | refine below_alloc ?_ (by first | exact Nat.le_refl _ | assumption | (simp; done) | omega | (simp; omega)) _ | refine below_ext ?_ (by assumption) (by first | exact Nat.le_refl _ | assumption | (simp; done) | omega | (simp; omega)) | refine Ext.drew ?_ | refine Ext.drewN ?_ _ | refine Ext.alloc ?_ _ | refine Ext.setCell ?_ (by first | assumption | (simp; done) | (simp; omega)) _ | refine Below.setCell ?_ (by first | assumption | (simp; done) | (simp; omega)) _ | refine Ext.trans ?_ (by assumption)))) (Nat.le_refl _)) (k := k) (by rw [← Hn.out]; omega)
          have htx := Lib.hid (acc_succ l k (by rw [← Hn.out]; omega))
          have hlen := acc_len l k HL.out (by rw [← Hn.out]; omega)
          have hy : (l[k]'(by rw [← Hn.out]; omega)).size ≤ 65536 := by
            have := List.any_eq_false.1 HL.out (l[k]'(by rw [← Hn.out]; omega)) (List.getElem_mem _)
            simp only [longB, decide_eq_true_eq] at this
            omega
          generalize l[k]'(by rw [← Hn.out]; omega) = y at *
          generalize acc l k = a0 at hlen htx hown ⊢
          go_wp2_with fail
          clear f0
          refine (put_any y.size _ 3 (by omega) rfl wr (by omega) (by omega)).mono ?_
          rintro e w6 ⟨v6, rfl, hown6, e6⟩
          obtain ⟨A6, c6, rfl, _, _, _⟩ := own_form hown6
          have own2 := own_ext hown e6
          have e7 : Ext w w6 := by (repeat (first | exact Below.refl _ _ | exact Ext.refl _ | assumption | refine Below.drew ?_ | refine below_drewN ?_ _ | refine below_alloc ?_ (by first | exact Nat.le_refl _ | assumption | (simp; done) | omega | (simp; omega)) _ | refine below_ext ?_ (by assumption) (by first | exact Nat.le_refl _ | assumption | (simp; done) | omega | (simp; omega)) | refine Ext.drew ?_ | refine Ext.drewN ?_ _ | refine Ext.alloc ?_ _ | refine Ext.setCell ?_ (by first | assumption | (simp; done) | (simp; omega)) _ | refine Below.setCell ?_ (by first | assumption | (simp; done) | (simp; omega)) _ | refine Ext.trans ?_ (by assumption)))
          clear hown e5 e6
          go_wp2_with (first
            | (at_builtin
               refine list_app _ rfl (.tmp 23) (.tmp 26) _ rfl 5 i0 _ 1 1 Tryd.underlying28 hi0 hz0 hz1 hz2 rfl (by omega) _ _ _ _ rfl own2 _ _ A6 3 c6 (bytes (puts y.size 3)) rfl (by rw [bytes_length, puts_length]) (Rd.of_own hown6) (bytes_one _) (by simp only [maxLen]; omega) (by omega) e7.size ?_
               intro v8 w8 hown8 he8 _ _
               have e8 : Ext w w8 := he8 _ e7 (Nat.le_refl _)
               clear he8 own2 e7 hown6)
            | (at_builtin
               refine Lib.wpList_append_own_string _ rfl (.tmp 28) (.tmp 29) _ _ rfl w.heap.size 5 i0 Tryd.underlying28 Tryd.underlying9 hi0 hz0 hz1 hz2 v8 _ _ rfl hown8 y rfl (by simp only [maxLen]; omega) (by omega) e8.size ?_
               intro v9 w9 hown9 hg9 _
               have e9 : Ext w w9 := ext_grown e8 hown8 hg9 (Nat.le_refl _)
               clear hg9 hown8 e8))
          go_roundw
          case rel =>
            refine ⟨k + 1, by omega, by go_num, ?_, e9⟩
            rw [htx.out, bytes_append, bytes_append, List.length_append, List.length_append, puts_length, len_data]
            exact hown9
          case measure => simp [intOf]; omega
        · go_wp2_with fail
          obtain rfl : k = n := by omega
          go_ret2
          exact ⟨_, by rw [hv.out.1]; rfl, by rw [hv.out.2]; exact hown, e5⟩
    · have hv : Hid (wE l = 5 ∧ wB l = []) := by
        have : wE l = 5 := by rw [wE, if_neg (by omega), hlong]; rfl
        exact ⟨this, by rw [wB, this]; rfl⟩
      have HL := Lib.hid hlong
      clear hn hlong
      go_enter Tryd.func22, Tryd.ntmps22
      go_wp2_with fail
      refine (contains_any w A n c 0 w.heap.size l Hn.out hm hr (Nat.le_refl _)).mono ?_
      rintro e w2 ⟨rfl, e2⟩
      rw [HL.out]
      go_wp2_with fail
      go_ret2
      exact ⟨.slice none 0 0, by rw [hv.out.1]; rfl, by rw [hv.out.2]; exact World.ownsRow_nil _ _ _ _, e2⟩
end Go.Proofs.YtpbbjmfhcgcldaaDoor
