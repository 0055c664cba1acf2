/- The texts Rw in one file. -/
import Derived.Test.YtmecjjmlccdppaaGreatDoorM21
import Derived.Lib.AppendStr
/- The walk of the reference's Write. -/
namespace Go.Proofs.YtmecjjmlccdppaaGreatDoor
open Go.RowKit

theorem step_app_str {P : Program} (w : World) {ops : Array Oper} {o : Oper} {a : Act} {K : Act → World → Prop} {Q : Exit → Act → World → Prop} {E : Prop} (hgd : o.guard = none) (s x : Operand) (t u : TypeId)
    (ho : o.op = .call { callee := .builtin .append, args := #[s, x], argTypes := #[t, u] })
    (base : Nat) (e : TypeId) (i : TypeInfo) (ht : P.underlying t = some (.slice e)) (hu : P.underlying u = some .string) (hi : P.info? e = some i) (hz : i.zero = some (.int .u8 0)) (hsize : i.size = 1) (hby : i.bytes = 1)
    (v : Value) (n : Nat) (xs : List Value) (hs : a.eval s = v) (hown : w.ownsRow base e 1 v n xs) (y : ByteArray) (hx : a.eval x = .string y)
    (h63 : n + y.size ≤ maxLen) (hb : n + y.size ≤ 140737488355328) (hbase : base ≤ w.heap.size)
    (h : ∀ v' w', w'.ownsRow base e 1 v' (n + y.size) (xs ++ Lib.strCells y) → w.grownBy w' v.ownBlock → K (a.put o.dst v') w') :
    if Region.wanted o (yielded ops a.tmps) = true then Oper.wp P o a w K Q else E := by
  have hw : Region.wanted o (yielded ops a.tmps) = true := by simp [Region.wanted, hgd]
  rw [if_pos hw]
  obtain ⟨v', w', hrun, h2, h3, _⟩ := Lib.run_append_own_string (P := P) w base t u o.type e i ht hu hi hz hsize hby v n xs hown y h63 hb hbase
  unfold Oper.wp execOp
  simp only [ho, resolve, invoke, builtin, Sem.run_bind, Sem.run_pure, Result.andThen_ok, List.map_toArray, List.map_cons, List.map_nil, hs, hx, hrun]
  exact h v' w' h2 h3

theorem any_take (l : List ByteArray) (k : Nat) (hk : k < l.length) (h : (l.take k).any longB = false) (hs : l[k].size ≤ 65536) : (l.take (k + 1)).any longB = false := by
  rw [List.take_succ_eq_append_getElem hk, List.any_append, h]
  simp [longB]
  omega
theorem any_long_at (l : List ByteArray) (k : Nat) (hk : k < l.length) (hs : 65536 < l[k].size) : l.any longB = true :=
  List.any_eq_true.2 ⟨l[k], List.getElem_mem _, by simp [longB, hs]⟩

set_option maxRecDepth 100000 in
set_option maxHeartbeats 2000000 in
theorem rwrite_any (w : World) (A : Option Addr) (n c : Nat) (l : List ByteArray) (hn : n = l.length) (hm : n ≤ 9223372036854775807) (hr : Rd w 0 w.heap.size A (l.map Value.string)) :
    Calls Tryz.prog 66 #[.slice A n c] w (WriteOk l w) := by
  obtain ⟨i0, hi0, hz0, hz1, hz2⟩ := info_parts info5
  have Hn := Lib.hid hn
  by_cases hbig : 1024 < n
  · have hv : Hid (wE l = 3 ∧ wB l = []) := by
      have : wE l = 3 := by rw [wE, if_pos (by omega)]
      exact ⟨this, by rw [wB, this]; rfl⟩
    clear hn
    go_enter Tryz.func66, Tryz.ntmps66
    go_wp2_with fail
    go_ret2
    exact ⟨.slice none 0 0, by rw [hv.out.1]; rfl, by rw [hv.out.2]; exact World.ownsRow_nil _ _ _ _, Ext.refl _⟩
  · clear hn
    go_enter Tryz.func66, Tryz.ntmps66
    go_wp2_with fail
    go_loopw [4] (fun i wr => ∃ k : Nat, k ≤ n ∧ i = .int .i64 k ∧ Hid ((l.take k).any longB = false) ∧ Ext w wr) (fun i _ => n - (intOf i).toNat)
    case atStart => exact ⟨0, Nat.zero_le _, rfl, by rw [Hid]; rfl, Ext.refl _⟩
    case round =>
      obtain ⟨k, hk, rfl, hlk, e1⟩ := hrel
      by_cases hlt : k < n
      · obtain ⟨b1, o1, rfl, _, _, f0⟩ := rd_str (hr.at (w' := wr) (by (repeat (first | exact Below.refl _ _ | exact Ext.refl _ | assumption | refine Below.drew ?_ | refine below_drewN ?_ _ | refine below_alloc ?_ (by first | exact Nat.le_refl _ | assumption | (simp; done) | omega | (simp; omega)) _ | refine below_ext ?_ (by assumption) (by first | exact Nat.le_refl _ | assumption | (simp; done) | omega | (simp; omega)) | refine Ext.drew ?_ | refine Ext.drewN ?_ _ | refine Ext.alloc ?_ _ | refine Ext.setCell ?_ (by first | assumption | (simp; done) | (simp; omega)) _ | refine Below.setCell ?_ (by first | assumption | (simp; done) | (simp; omega)) _ | refine Ext.trans ?_ (by assumption)))) (Nat.le_refl _)) (k := k) (by rw [← Hn.out]; omega)
        have ht1 := Lib.hid (any_take l k (by rw [← Hn.out]; omega) hlk.out)
        have ht2 := Lib.hid (any_long_at l k (by rw [← Hn.out]; omega))
        generalize l[k]'(by rw [← Hn.out]; omega) = y at *
        by_cases hy : 65536 < y.size
        · have hv : Hid (wE l = 5 ∧ wB l = []) := by
            have : wE l = 5 := by rw [wE, if_neg (by rw [← Hn.out]; exact hbig), ht2.out hy]; rfl
            exact ⟨this, by rw [wB, this]; rfl⟩
          go_wp2_with fail
          go_ret2
          exact ⟨.slice none 0 0, by rw [hv.out.1]; rfl, by rw [hv.out.2]; exact World.ownsRow_nil _ _ _ _, e1⟩
        · go_wp2_with fail
          go_roundw
          case rel => exact ⟨k + 1, by omega, by go_num, Lib.hid (ht1.out (by omega)), by (repeat (first | exact Below.refl _ _ | exact Ext.refl _ | assumption | refine Below.drew ?_ | refine below_drewN ?_ _ | refine below_alloc ?_ (by first | exact Nat.le_refl _ | assumption | (simp; done) | omega | (simp; omega)) _ | refine below_ext ?_ (by assumption) (by first | exact Nat.le_refl _ | assumption | (simp; done) | omega | (simp; omega)) | refine Ext.drew ?_ | refine Ext.drewN ?_ _ | refine Ext.alloc ?_ _ | refine Ext.setCell ?_ (by first | assumption | (simp; done) | (simp; omega)) _ | refine Below.setCell ?_ (by first | assumption | (simp; done) | (simp; omega)) _ | refine Ext.trans ?_ (by assumption)))⟩
          case measure => simp [intOf]; omega
      · obtain rfl : k = n := by omega
        have HL : Hid (l.any longB = false) := by
          have h := hlk.out
          rwa [List.take_of_length_le (by rw [← Hn.out]; exact Nat.le_refl _)] at h
        have hv : Hid (wE l = 0 ∧ wB l = acc l k) := by
          have : wE l = 0 := by rw [wE, if_neg (by rw [← Hn.out]; exact hbig), HL.out]; rfl
          refine ⟨this, ?_⟩
          rw [wB, this, if_pos rfl, acc, List.take_of_length_le (by rw [← Hn.out]; exact Nat.le_refl _)]
          rfl
        clear hlk hlt hk
        go_wp2_with fail
        refine (rput_any k _ 2 (by omega) rfl wr (by omega) (by omega)).mono ?_
        rintro e w3 ⟨v3, rfl, hown3, e3⟩
        have e4 : Ext w w3 := by (repeat (first | exact Below.refl _ _ | exact Ext.refl _ | assumption | refine Below.drew ?_ | refine below_drewN ?_ _ | refine below_alloc ?_ (by first | exact Nat.le_refl _ | assumption | (simp; done) | omega | (simp; omega)) _ | refine below_ext ?_ (by assumption) (by first | exact Nat.le_refl _ | assumption | (simp; done) | omega | (simp; omega)) | refine Ext.drew ?_ | refine Ext.drewN ?_ _ | refine Ext.alloc ?_ _ | refine Ext.setCell ?_ (by first | assumption | (simp; done) | (simp; omega)) _ | refine Below.setCell ?_ (by first | assumption | (simp; done) | (simp; omega)) _ | refine Ext.trans ?_ (by assumption)))
        have hown4 : w3.ownsRow w.heap.size 5 1 v3 2 (bytes (acc l 0)) := by
          have h : acc l 0 = puts k 2 := by rw [acc, ← Hn.out]; simp
          rw [h]
          exact own_lower hown3 e1.size
        clear hown3 e1 e3
        go_wp2_with fail
        go_loopw [5, 6] (fun v i wr => ∃ j : Nat, j ≤ k ∧ i = .int .i64 j ∧ wr.ownsRow w.heap.size 5 1 v (acc l j).length (bytes (acc l j)) ∧ Ext w wr) (fun _ i _ => k - (intOf i).toNat)
        case atStart => exact ⟨0, Nat.zero_le _, rfl, by have h : (acc l 0).length = 2 := by simp [acc, puts_length]
                                                         rw [h]; exact hown4, e4⟩
        case round =>
          clear hown4 e4
          obtain ⟨j, hj, rfl, hown, e5⟩ := hrel
          by_cases hlt : j < k
          · obtain ⟨b1, o1, rfl, _, _, f0⟩ := rd_str hr (k := j) (by rw [← Hn.out]; omega)
            have htx := Lib.hid (acc_succ l j (by rw [← Hn.out]; omega))
            have hlen := acc_len l j HL.out (by rw [← Hn.out]; omega)
            have hy : (l[j]'(by rw [← Hn.out]; omega)).size ≤ 65536 := by
              have := List.any_eq_false.1 HL.out (l[j]'(by rw [← Hn.out]; omega)) (List.getElem_mem _)
              simp only [longB, decide_eq_true_eq] at this
              omega
            have f1 : ∀ w', Ext w w' → w'.cell? ⟨b1, o1 + j, none⟩ = some (.string (l[j]'(by rw [← Hn.out]; omega))) := fun w' h => by rw [Below.cell h (by assumption)]; exact f0
            generalize l[j]'(by rw [← Hn.out]; omega) = y at *
            generalize acc l j = a0 at hlen htx hown ⊢
            clear f0
            go_wp2_with fail
            go_region_held3 (fun w' => Ext w w') (first | (repeat (first | exact Below.refl _ _ | exact Ext.refl _ | assumption | refine Below.drew ?_ | refine below_drewN ?_ _ | refine below_alloc ?_ (by first | exact Nat.le_refl _ | assumption | (simp; done) | omega | (simp; omega)) _ | refine below_ext ?_ (by assumption) (by first | exact Nat.le_refl _ | assumption | (simp; done) | omega | (simp; omega)) | refine Ext.drew ?_ | refine Ext.drewN ?_ _ | refine Ext.alloc ?_ _ | refine Ext.setCell ?_ (by first | assumption | (simp; done) | (simp; omega)) _ | refine Below.setCell ?_ (by first | assumption | (simp; done) | (simp; omega)) _ | refine Ext.trans ?_ (by assumption))) | (trace_state; fail))
              (first
                | (go_at_call 67
                   refine (rput_any y.size _ 3 (by omega) rfl _ (by omega) (by omega)).mono ?_
                   rintro e w6 ⟨v6, rfl, hown6, e6⟩
                   have own2 := own_ext hown (show Ext wr w6 by (repeat (first | exact Below.refl _ _ | exact Ext.refl _ | assumption | refine Below.drew ?_ | refine below_drewN ?_ _ | refine below_alloc ?_ (by first | exact Nat.le_refl _ | assumption | (simp; done) | omega | (simp; omega)) _ | refine below_ext ?_ (by assumption) (by first | exact Nat.le_refl _ | assumption | (simp; done) | omega | (simp; omega)) | refine Ext.drew ?_ | refine Ext.drewN ?_ _ | refine Ext.alloc ?_ _ | refine Ext.setCell ?_ (by first | assumption | (simp; done) | (simp; omega)) _ | refine Below.setCell ?_ (by first | assumption | (simp; done) | (simp; omega)) _ | refine Ext.trans ?_ (by assumption))))
                   obtain ⟨A6, c6, rfl, _, _, _⟩ := own_form hown6)
                | (refine step_app _ rfl (.tmp 31) (.tmp 37) _ rfl 5 i0 _ 1 1 Tryz.underlying57 hi0 hz0 hz1 hz2 rfl (by omega) _ _ _ _ rfl (own_ext own2 (by (repeat (first | exact Below.refl _ _ | exact Ext.refl _ | assumption | refine Below.drew ?_ | refine below_drewN ?_ _ | refine below_alloc ?_ (by first | exact Nat.le_refl _ | assumption | (simp; done) | omega | (simp; omega)) _ | refine below_ext ?_ (by assumption) (by first | exact Nat.le_refl _ | assumption | (simp; done) | omega | (simp; omega)) | refine Ext.drew ?_ | refine Ext.drewN ?_ _ | refine Ext.alloc ?_ _ | refine Ext.setCell ?_ (by first | assumption | (simp; done) | (simp; omega)) _ | refine Below.setCell ?_ (by first | assumption | (simp; done) | (simp; omega)) _ | refine Ext.trans ?_ (by assumption))))) _ _ A6 3 c6 (bytes (puts y.size 3)) rfl (by rw [bytes_length, puts_length]) (Rd.of_own (own_ext hown6 (by (repeat (first | exact Below.refl _ _ | exact Ext.refl _ | assumption | refine Below.drew ?_ | refine below_drewN ?_ _ | refine below_alloc ?_ (by first | exact Nat.le_refl _ | assumption | (simp; done) | omega | (simp; omega)) _ | refine below_ext ?_ (by assumption) (by first | exact Nat.le_refl _ | assumption | (simp; done) | omega | (simp; omega)) | refine Ext.drew ?_ | refine Ext.drewN ?_ _ | refine Ext.alloc ?_ _ | refine Ext.setCell ?_ (by first | assumption | (simp; done) | (simp; omega)) _ | refine Below.setCell ?_ (by first | assumption | (simp; done) | (simp; omega)) _ | refine Ext.trans ?_ (by assumption)))))) (bytes_one _) (by simp only [maxLen]; omega) (by omega) (Ext.size (by (repeat (first | exact Below.refl _ _ | exact Ext.refl _ | assumption | refine Below.drew ?_ | refine below_drewN ?_ _ | refine below_alloc ?_ (by first | exact Nat.le_refl _ | assumption | (simp; done) | omega | (simp; omega)) _ | refine below_ext ?_ (by assumption) (by first | exact Nat.le_refl _ | assumption | (simp; done) | omega | (simp; omega)) | refine Ext.drew ?_ | refine Ext.drewN ?_ _ | refine Ext.alloc ?_ _ | refine Ext.setCell ?_ (by first | assumption | (simp; done) | (simp; omega)) _ | refine Below.setCell ?_ (by first | assumption | (simp; done) | (simp; omega)) _ | refine Ext.trans ?_ (by assumption))))) ?_
                   intro v8 w8 hown8 he8 _ _
                   have e8 : Ext w w8 := he8 _ (by (repeat (first | exact Below.refl _ _ | exact Ext.refl _ | assumption | refine Below.drew ?_ | refine below_drewN ?_ _ | refine below_alloc ?_ (by first | exact Nat.le_refl _ | assumption | (simp; done) | omega | (simp; omega)) _ | refine below_ext ?_ (by assumption) (by first | exact Nat.le_refl _ | assumption | (simp; done) | omega | (simp; omega)) | refine Ext.drew ?_ | refine Ext.drewN ?_ _ | refine Ext.alloc ?_ _ | refine Ext.setCell ?_ (by first | assumption | (simp; done) | (simp; omega)) _ | refine Below.setCell ?_ (by first | assumption | (simp; done) | (simp; omega)) _ | refine Ext.trans ?_ (by assumption)))) (Nat.le_refl _)
                   clear he8)
                | (refine step_app_str _ rfl (.tmp 38) (.tmp 42) _ _ rfl w.heap.size 5 i0 Tryz.underlying57 Tryz.underlying9 hi0 hz0 hz1 hz2 v8 _ _ rfl (by first | exact hown8 | exact own_ext hown8 (by (repeat (first | exact Below.refl _ _ | exact Ext.refl _ | assumption | refine Below.drew ?_ | refine below_drewN ?_ _ | refine below_alloc ?_ (by first | exact Nat.le_refl _ | assumption | (simp; done) | omega | (simp; omega)) _ | refine below_ext ?_ (by assumption) (by first | exact Nat.le_refl _ | assumption | (simp; done) | omega | (simp; omega)) | refine Ext.drew ?_ | refine Ext.drewN ?_ _ | refine Ext.alloc ?_ _ | refine Ext.setCell ?_ (by first | assumption | (simp; done) | (simp; omega)) _ | refine Below.setCell ?_ (by first | assumption | (simp; done) | (simp; omega)) _ | refine Ext.trans ?_ (by assumption))))) y rfl (by simp only [maxLen]; omega) (by omega) (Ext.size (by (repeat (first | exact Below.refl _ _ | exact Ext.refl _ | assumption | refine Below.drew ?_ | refine below_drewN ?_ _ | refine below_alloc ?_ (by first | exact Nat.le_refl _ | assumption | (simp; done) | omega | (simp; omega)) _ | refine below_ext ?_ (by assumption) (by first | exact Nat.le_refl _ | assumption | (simp; done) | omega | (simp; omega)) | refine Ext.drew ?_ | refine Ext.drewN ?_ _ | refine Ext.alloc ?_ _ | refine Ext.setCell ?_ (by first | assumption | (simp; done) | (simp; omega)) _ | refine Below.setCell ?_ (by first | assumption | (simp; done) | (simp; omega)) _ | refine Ext.trans ?_ (by assumption))))) ?_
                   intro v9 w9 hown9 hg9
                   have e9 : Ext w w9 := ext_grown (by (repeat (first | exact Below.refl _ _ | exact Ext.refl _ | assumption | refine Below.drew ?_ | refine below_drewN ?_ _ | refine below_alloc ?_ (by first | exact Nat.le_refl _ | assumption | (simp; done) | omega | (simp; omega)) _ | refine below_ext ?_ (by assumption) (by first | exact Nat.le_refl _ | assumption | (simp; done) | omega | (simp; omega)) | refine Ext.drew ?_ | refine Ext.drewN ?_ _ | refine Ext.alloc ?_ _ | refine Ext.setCell ?_ (by first | assumption | (simp; done) | (simp; omega)) _ | refine Below.setCell ?_ (by first | assumption | (simp; done) | (simp; omega)) _ | refine Ext.trans ?_ (by assumption)))) (by first | exact hown8 | exact own_ext hown8 (by (repeat (first | exact Below.refl _ _ | exact Ext.refl _ | assumption | refine Below.drew ?_ | refine below_drewN ?_ _ | refine below_alloc ?_ (by first | exact Nat.le_refl _ | assumption | (simp; done) | omega | (simp; omega)) _ | refine below_ext ?_ (by assumption) (by first | exact Nat.le_refl _ | assumption | (simp; done) | omega | (simp; omega)) | refine Ext.drew ?_ | refine Ext.drewN ?_ _ | refine Ext.alloc ?_ _ | refine Ext.setCell ?_ (by first | assumption | (simp; done) | (simp; omega)) _ | refine Below.setCell ?_ (by first | assumption | (simp; done) | (simp; omega)) _ | refine Ext.trans ?_ (by assumption))))) hg9 (Nat.le_refl _)
                   clear hg9))
            all_goals (
              clear f1
              go_wp2_with fail
              go_roundw
              case rel =>
                refine ⟨j + 1, by omega, by go_num, ?_, by (repeat (first | exact Below.refl _ _ | exact Ext.refl _ | assumption | refine Below.drew ?_ | refine below_drewN ?_ _ | refine below_alloc ?_ (by first | exact Nat.le_refl _ | assumption | (simp; done) | omega | (simp; omega)) _ | refine below_ext ?_ (by assumption) (by first | exact Nat.le_refl _ | assumption | (simp; done) | omega | (simp; omega)) | refine Ext.drew ?_ | refine Ext.drewN ?_ _ | refine Ext.alloc ?_ _ | refine Ext.setCell ?_ (by first | assumption | (simp; done) | (simp; omega)) _ | refine Below.setCell ?_ (by first | assumption | (simp; done) | (simp; omega)) _ | refine Ext.trans ?_ (by assumption)))⟩
                rw [htx.out, bytes_append, bytes_append, List.length_append, List.length_append, puts_length, len_data]
                exact hown9
              case measure => simp [intOf]; omega)
          · go_wp2_with fail
            obtain rfl : j = k := by omega
            go_ret2
            exact ⟨_, by rw [hv.out.1]; rfl, by rw [hv.out.2]; exact hown, e5⟩
end Go.Proofs.YtmecjjmlccdppaaGreatDoor
