/- The walks of fields.Number, fields.Numbers, fields.Write. -/
import Derived.Test.YtpbbjmfhcgcldaaDoorOct
import Derived.Lib.AppendStr
namespace Go.Proofs.YtpbbjmfhcgcldaaDoor
open Go.RowKit

theorem rd_bytesRow (W : World) (s : ByteArray) (cap : Nat) (e : TypeId) (fz : Nat × Nat) : Rd (W.alloc (.cells (bytesRow s cap) e fz)) W.heap.size (W.heap.size + 1) (some ⟨W.heap.size, 0, none⟩) (bytes s.data.toList) := fun _ => by
  refine ⟨_, _, rfl, Nat.le_refl _, Nat.lt_succ_self _, fun j u h => ?_⟩
  have h1 := heap_alloc_new W (.cells (bytesRow s cap) e fz)
  unfold World.cell?
  rw [h1]
  simp only [bytes, List.getElem?_map, Array.getElem?_toList] at h
  simp only [Nat.zero_add, Option.isSome_none, Bool.false_eq_true, if_false, bytesRow]
  have hj : j < s.data.size := by
    rcases Nat.lt_or_ge j s.data.size with h' | h'
    · exact h'
    · rw [Array.getElem?_eq_none h'] at h; cases h
  rw [Array.getElem?_append_left (by simpa using hj), Array.getElem?_map]
  exact h
theorem len_data (s : ByteArray) : s.data.toList.length = s.size := by rw [Array.length_toList]; rfl
def fE (s : ByteArray) : Int := if s.size < 8 then 8 else if 8 < s.size then 5 else numE s.data.toList
def fV (s : ByteArray) : Int := if s.size < 8 then 0 else if 8 < s.size then 0 else numV s.data.toList

set_option maxRecDepth 100000 in
set_option maxHeartbeats 400000 in
theorem fnumber_any (s : ByteArray) (w : World) (hm : s.size ≤ 9223372036854775807) :
    Calls Tryd.prog 37 #[.string s] w fun e w' => e = .returned (.tuple #[.int .i64 (fV s), .int .i64 (fE s)]) ∧ Ext w w' := by
  by_cases h0 : s.size < 8
  · have hv : Hid (fV s = 0 ∧ fE s = 8) := by rw [fV, fE, if_pos h0, if_pos h0]; exact ⟨rfl, rfl⟩
    go_enter Tryd.func37, Tryd.ntmps37
    go_wp2_with fail
    go_ret2
    exact ⟨by rw [hv.out.1, hv.out.2]; rfl, Ext.refl _⟩
  · by_cases h8 : 8 < s.size
    · have hv : Hid (fV s = 0 ∧ fE s = 5) := by rw [fV, fE, if_neg h0, if_neg h0, if_pos h8, if_pos h8]; exact ⟨rfl, rfl⟩
      go_enter Tryd.func37, Tryd.ntmps37
      go_wp2_with fail
      go_ret2
      exact ⟨by rw [hv.out.1, hv.out.2]; rfl, Ext.refl _⟩
    · have hv : Hid (fV s = numV s.data.toList ∧ fE s = numE s.data.toList) := by rw [fV, fE, if_neg h0, if_neg h0, if_neg h8, if_neg h8]; exact ⟨rfl, rfl⟩
      have hcv := fun W => run_bytes_of_string (P := Tryd.prog) W 9 28 5 s Tryd.underlying9 Tryd.underlying28 Tryd.underlying5
      have hrd := rd_bytesRow w s (grownCap w s.size 0 5) 5 ((bytesRow s (grownCap w s.size 0 5)).size, (bytesRow s (grownCap w s.size 0 5)).size + 1)
      have HR := Lib.hid hrd
      clear hrd
      go_enter Tryd.func37, Tryd.ntmps37
      go_wp2_with fail
      clear hcv
      refine (number_any _ _ s.size _ _ _ s.data.toList (by rw [len_data]) hm HR.out.drew (by simp)).mono ?_
      rintro e w2 ⟨rfl, e2⟩
      go_wp2_with fail
      go_ret2
      exact ⟨by rw [hv.out.1, hv.out.2]; rfl, by (repeat (first | exact Below.refl _ _ | exact Ext.refl _ | assumption | refine Below.drew ?_ | refine below_drewN ?_ _ | refine below_alloc ?_ (by first | exact Nat.le_refl _ | assumption | (simp; done) | omega | (simp; omega)) _ | refine below_ext ?_ (by assumption) (by first | exact Nat.le_refl _ | assumption | (simp; done) | omega | (simp; omega)) | refine Ext.drew ?_ | refine Ext.drewN ?_ _ | refine Ext.alloc ?_ _ | refine Ext.setCell ?_ (by first | assumption | (simp; done) | (simp; omega)) _ | refine Below.setCell ?_ (by first | assumption | (simp; done) | (simp; omega)) _ | refine Ext.trans ?_ (by assumption)))⟩

theorem info9 : (Tryd.prog.info? 9).map (fun i => (i.zero, i.size, i.bytes)) = some (some (.string .empty), 1, 16) := by kernel_rfl
/-- a number as a text of eight octets -/
def num8 (z : Int) : ByteArray := ⟨(puts z 8).toArray⟩
def ints (zs : List Int) : List Value := zs.map (Value.int .i64)
theorem rd_int {w : World} {lo hi : Nat} {A : Option Addr} {l : List Int} (h : Rd w lo hi A (ints l)) {k : Nat} (hk : k < l.length) :
    ∃ b o, A = some ⟨b, o, none⟩ ∧ lo ≤ b ∧ b < hi ∧ w.cell? ⟨b, o + k, none⟩ = some (.int .i64 l[k]) := by
  obtain ⟨b, o, h1, h2, h3, h4⟩ := h (fun e => by have : (ints l).length = l.length := by simp [ints]
                                                  rw [e] at this; simp at this; omega)
  exact ⟨b, o, h1, h2, h3, h4 k _ (by rw [ints, List.getElem?_map, List.getElem?_eq_getElem hk]; rfl)⟩
def num8s (zs : List Int) : List Value := zs.map fun z => .string (num8 z)
theorem num8s_snoc (xs : List Int) (k : Nat) (hk : k < xs.length) : num8s (xs.take (k + 1)) = num8s (xs.take k) ++ [.string (num8 xs[k])] := by
  rw [List.take_succ_eq_append_getElem hk, num8s, num8s, List.map_append]
  rfl

set_option maxRecDepth 100000 in
set_option maxHeartbeats 1000000 in
theorem numbers_any (w : World) (A : Option Addr) (n c : Nat) (zs : List Int) (hn : n = zs.length) (hr : Rd w 0 w.heap.size A (ints zs)) (hb : n * 16 ≤ 140737488355328) (hwf : ∀ z ∈ zs, -9223372036854775808 ≤ z ∧ z ≤ 9223372036854775807) :
    Calls Tryd.prog 21 #[.slice A n c] w fun e w' => ∃ v, e = .returned v ∧ w'.ownsRow w.heap.size 9 1 v n (num8s zs) ∧ Ext w w' := by
  obtain ⟨i0, hi0, hz0, hz1, hz2⟩ := info_parts info9
  have Hn := Lib.hid hn
  have HW := Lib.hid hwf
  clear hn hwf
  go_enter Tryd.func21, Tryd.ntmps21
  go_wp2_with fail
  go_loopw [3, 8] (fun v i wr => ∃ k : Nat, k ≤ n ∧ i = .int .i64 k ∧ wr.ownsRow w.heap.size 9 1 v k (num8s (zs.take k)) ∧ Ext w wr) (fun _ i _ => n - (intOf i).toNat)
  case atStart => exact ⟨0, Nat.zero_le _, rfl, World.ownsRow_nil _ _ _ _, Ext.refl _⟩
  case round =>
    obtain ⟨k, hk, rfl, hown, e3⟩ := hrel
    by_cases hlt : k < n
    · obtain ⟨b1, o1, rfl, _, _, f0⟩ := rd_int (hr.at (w' := wr) (by (repeat (first | exact Below.refl _ _ | exact Ext.refl _ | assumption | refine Below.drew ?_ | refine below_drewN ?_ _ | refine below_alloc ?_ (by first | exact Nat.le_refl _ | assumption | (simp; done) | omega | (simp; omega)) _ | refine below_ext ?_ (by assumption) (by first | exact Nat.le_refl _ | assumption | (simp; done) | omega | (simp; omega)) | refine Ext.drew ?_ | refine Ext.drewN ?_ _ | refine Ext.alloc ?_ _ | refine Ext.setCell ?_ (by first | assumption | (simp; done) | (simp; omega)) _ | refine Below.setCell ?_ (by first | assumption | (simp; done) | (simp; omega)) _ | refine Ext.trans ?_ (by assumption)))) (Nat.le_refl _)) (k := k) (by rw [← Hn.out]; omega)
      have hy := HW.out zs[k] (List.getElem_mem _)
      have htx := Lib.hid (num8s_snoc zs k (by rw [← Hn.out]; omega))
      generalize zs[k]'(by rw [← Hn.out]; omega) = y at *
      go_wp2_with fail
      clear f0
      refine (put_any y _ 8 (Nat.le_refl _) rfl wr hy.1 hy.2).mono ?_
      rintro e w2 ⟨v2, rfl, hown2, e2⟩
      obtain ⟨A2, c2, rfl, _, _, _⟩ := own_form hown2
      have hcv : (convert 28 9 (.slice A2 8 c2)).run Tryd.prog w2 = .ok (.string (num8 y)) w2 := run_conv_str w2 _ _ 5 Tryd.underlying28 Tryd.underlying5 Tryd.underlying9 _ _ A2 8 c2 (puts y 8) (puts_length _ _).symm (Rd.of_own hown2)
      have own2 := own_ext hown e2
      have e4 : Ext w w2 := by (repeat (first | exact Below.refl _ _ | exact Ext.refl _ | assumption | refine Below.drew ?_ | refine below_drewN ?_ _ | refine below_alloc ?_ (by first | exact Nat.le_refl _ | assumption | (simp; done) | omega | (simp; omega)) _ | refine below_ext ?_ (by assumption) (by first | exact Nat.le_refl _ | assumption | (simp; done) | omega | (simp; omega)) | refine Ext.drew ?_ | refine Ext.drewN ?_ _ | refine Ext.alloc ?_ _ | refine Ext.setCell ?_ (by first | assumption | (simp; done) | (simp; omega)) _ | refine Below.setCell ?_ (by first | assumption | (simp; done) | (simp; omega)) _ | refine Ext.trans ?_ (by assumption)))
      clear hown e2 e3 hown2
      go_wp2_with
        (at_builtin
         refine list_app _ rfl (.tmp 12) (.tmp 16) _ rfl 9 i0 _ 1 16 Tryd.underlying25 hi0 hz0 hz1 hz2 rfl (by omega) _ _ k _ rfl (own2.alloc _) 0 _ _ 1 1 [.string (num8 y)] rfl rfl
           ((rd_new _ _ _).more (Nat.zero_le _) (Nat.le_refl _)) (by simp [Value.oneCell']) (by simp only [maxLen]; omega) (by omega) (by have := e4.size; simp; omega) ?_
         intro v3 w3 hown3 he3 _ _
         have e5 : Ext w w3 := he3 _ (e4.alloc _) (Nat.le_refl _)
         clear he3 own2 e4)
      go_roundw
      case rel => exact ⟨k + 1, by omega, by go_num, by rw [htx.out]; exact hown3, e5⟩
      case measure => simp [intOf]; omega
    · go_wp2_with fail
      obtain rfl : k = n := by omega
      go_ret
      exact ⟨_, rfl, by rw [List.take_of_length_le (by rw [← Hn.out]; exact Nat.le_refl _)] at hown; exact hown, e3⟩
end Go.Proofs.YtpbbjmfhcgcldaaDoor
