/- The texts Read, Dcd, Pgs, Cnk, Not in one file. -/
import Derived.Deep.DeepAppendWide
import Derived.Test.YtfongpdeflfioaaGreatM11
import Derived.Test.YtfongpdeflfioaaGreatM3
/- The walks of slices.Clone over octets, octets.Cut, fields.taken, fields.Read. -/
namespace Go.Proofs.YtfongpdeflfioaaGreat
open Go.RowKit

/-- 'append(v, l...)', v a row of the call's own, up to what growslice bears -/
theorem list_app_wide {P : Program} (w : World) {ops : Array Oper} {rest : List Oper} {o : Oper} {a : Act} {Q : Exit → Act → World → Prop} (hgd : o.guard = none) (s x : Operand) (t : TypeId)
    (ho : o.op = .call { callee := .builtin .append, args := #[s, x], argTypes := #[t, t] })
    (e : TypeId) (i : TypeInfo) (z : Value) (size bytes : Nat) (ht : P.underlying t = some (.slice e)) (hi : P.info? e = some i) (hz : i.zero = some z)
    (hsize : i.size = size) (hby : i.bytes = bytes) (hzs : z.cells.size = size) (hsz : 0 < size)
    (base : Nat) (v : Value) (n : Nat) (xs : List Value) (hs : a.eval s = v) (hown : w.ownsRow base e size v n xs) (lo h' : Nat) (A : Option Addr) (m c : Nat) (news : List Value) (hx : a.eval x = .slice A m c) (hl : news.length = m * size) (hr : Rd w lo h' A news) (h1 : ∀ u ∈ news, u.oneCell' = true)
    (h63 : n + m ≤ maxLen) (hbytes : ((n + m) + (n + m) / 4 + 192) * bytes ≤ 281474976710656) (hn : n * bytes ≤ 140737488355328) (hbase : base ≤ w.heap.size)
    (h : ∀ v' w', w'.ownsRow base e size v' (n + m) (xs ++ news) → (∀ b, Ext b w → b.heap.size ≤ base → Ext b w') → w.grownBy w' v.ownBlock → wpList P ops Q rest (a.put o.dst v') w') : wpList P ops Q (o :: rest) a w := by
  cases A with
  | none =>
    have hm : m = 0 := by
      rcases Nat.eq_zero_or_pos m with h0 | h0
      · exact h0
      · obtain ⟨b, o, h, _⟩ := hr (fun e => by have := Nat.mul_pos h0 hsz; simp [e] at hl; omega)
        cases h
    subst hm
    exact list_app w hgd s x t ho e i z size bytes ht hi hz hsize hby hzs hsz base v n xs hs hown lo h' none 0 c news hx hl hr h1 h63 hn hbase fun v' w' a1 a2 _ a3 => h v' w' a1 a2 a3
  | some ad =>
    have hcells : ∀ j u, news[j]? = some u → w.cell? (ad.add j) = some u := by
      intro j u hu
      obtain ⟨b, o, h, _, _, hc⟩ := hr (fun e => by simp [e] at hu)
      injection h with h
      subst h
      rw [add_lit]
      exact hc j u hu
    exact Go.wpList_append_own_wide w hgd s x t ho base e i z size bytes ht hi hz hsize hby hzs hsz v n xs hs hown ad m c news hx hl hcells h1 h63 hbytes hbase
      fun v' w' h2 h3 _ => h v' w' h2 (fun _ hb hle => ext_grown hb hown h3 hle) h3

set_option maxRecDepth 100000 in
set_option maxHeartbeats 400000 in
theorem cloneb_any (w : World) (base : Nat) (hbase : base ≤ w.heap.size) (A : Option Addr) (n c : Nat) (l : List UInt8) (hn : n = l.length) (hr : Rd w 0 w.heap.size A (bytes l)) (hb : n ≤ 150000000000000) :
    Calls Tryz.prog 56 #[.slice A n c] w fun e w' => ∃ v, e = .returned v ∧ w'.ownsRow base 5 1 v n (bytes l) ∧ Ext w w' := by
  have qT : ∀ (w : World) (a : Option Addr) (n c n' c' : Nat), (binOp .eql 33 (.slice a n c) (.slice none n' c')).run Tryz.prog w = .ok (.bool a.isNone) w := fun w a n c n' c' => Lib.run_eql_slice_nil w _ _ a n c n' c' Tryz.underlying33
  obtain ⟨i0, hi0, hz0, hz1, hz2⟩ := info_parts info5
  have hmx : n ≤ maxLen := by simp only [maxLen]; omega
  have hl : (bytes l).length = n * 1 := by rw [bytes_length, hn, Nat.mul_one]
  have Hn := Lib.hid hn
  clear hn
  cases A with
  | none =>
    have : n = 0 := by
      rcases Nat.eq_zero_or_pos n with h | h
      · exact h
      · obtain ⟨b, o, hh, _⟩ := hr (fun e => by rw [e] at hl; simp at hl; omega)
        cases hh
    subst this
    have : bytes l = [] := List.eq_nil_of_length_eq_zero (by simpa using hl)
    rw [this]
    clear hl
    go_enter Tryz.func56, Tryz.ntmps56
    go_wp2
    go_ret
    exact ⟨_, rfl, World.ownsRow_nil _ _ _ _, Ext.refl _⟩
  | some ad =>
    go_enter Tryz.func56, Tryz.ntmps56
    go_wp2_with
      (at_builtin
       refine list_app_wide _ rfl (.tmp 5) (.tmp 6) _ rfl 5 i0 _ 1 1 Tryz.underlying33 hi0 hz0 hz1 hz2 rfl (by omega) base (.slice (some ⟨w.heap.size, 0, none⟩) 0 0) 0 [] rfl
         (World.ownsRow_lit w #[] 0 hbase (Nat.zero_le _) rfl) 0 w.heap.size (some ad) n c (bytes l) rfl hl (hr.alloc (Nat.le_refl _) _) (bytes_one _) (by simpa using hmx) (by omega) (by omega) (by simp; omega) ?_
       intro v1 w1 hown1 he1 hg1)
    go_ret
    refine ⟨v1, rfl, by simpa using hown1, below_grown ((Below.refl _ _).alloc (Nat.le_refl _) _) hg1 (by simp) (.inr ⟨_, rfl, Nat.le_refl _⟩)⟩

/-- octets.Cut: the first k, and the rest -/
def CutOk (l : List UInt8) (k : Nat) (w : World) (e : Ending) (w' : World) : Prop :=
  ∃ v1 v2, e = .returned (.tuple #[v1, v2, .int .i64 (if l.length < k then 8 else 0)]) ∧
    w'.ownsRow w.heap.size 5 1 v1 (if l.length < k then 0 else k) (bytes (if l.length < k then [] else l.take k)) ∧
    w'.ownsRow w.heap.size 5 1 v2 (if l.length < k then 0 else l.length - k) (bytes (if l.length < k then [] else l.drop k)) ∧ Ext w w'

set_option maxRecDepth 100000 in
set_option maxHeartbeats 1000000 in
theorem cut_any (w : World) (A : Option Addr) (n c : Nat) (l : List UInt8) (hn : n = l.length) (hnc : n ≤ c) (hr : Rd w 0 w.heap.size A (bytes l)) (hb : n ≤ 150000000000000) (hc : c ≤ 9223372036854775807) (k : Nat) (K : Int) (hK : K = (k : Int)) :
    Calls Tryz.prog 147 #[.slice A n c, .int .i64 K] w (CutOk l k w) := by
  subst hK
  obtain ⟨i0, hi0, hz0, hz1, hz2⟩ := info_parts info5
  have hlen : (bytes l).length = n * 1 := by rw [bytes_length, hn, Nat.mul_one]
  have Hn := Lib.hid hn
  by_cases hk : n < k
  · have hif : l.length < k := by omega
    have HI := Lib.hid hif
    clear hn hif hlen
    go_enter Tryz.func147, Tryz.ntmps147
    go_wp2_with fail
    refine bodyPost_ret (results_tmp3 rfl _ _ _) rfl ?_
    refine ⟨_, _, by rw [if_pos HI.out]; rfl, ?_, ?_, Ext.refl _⟩
    · rw [if_pos HI.out, if_pos HI.out]
      exact World.ownsRow_nil _ _ _ _
    · rw [if_pos HI.out, if_pos HI.out]
      exact World.ownsRow_nil _ _ _ _
  · have hif : ¬ l.length < k := by omega
    have HI := Lib.hid hif
    have hsl : ∀ W, (Instr.slice 33 (.slice A n c) (some (.int .i64 (k : Int))) none none).run Tryz.prog W = .ok (.slice (shiftA A c k 1) (n - k) (c - k)) W := fun W => run_slice_from W 33 5 i0 1 Tryz.underlying33 hi0 hz1 A n c k _ rfl (by omega)
    have h2 : Rd w 0 w.heap.size (shiftA A c k 1) (bytes (l.drop k)) := by
      have := hr.from_ hlen (k := k) (by omega) hnc
      rwa [Nat.mul_one, bytes_drop] at this
    have h1 : Rd w 0 w.heap.size A (bytes (l.take k)) := by
      have := hr.take k
      rwa [bytes_take] at this
    have HL1 : Hid (k = (l.take k).length) := by rw [Hid, List.length_take]; omega
    have HL2 : Hid (n - k = (l.drop k).length) := by rw [Hid, List.length_drop]; omega
    clear hn hif hlen
    go_enter Tryz.func147, Tryz.ntmps147
    go_wp2_with fail
    have b1 : (0 : Int) ≤ (k : Int) := by omega
    have b2 : (k : Int) ≤ (c : Int) := by omega
    have b3 : (k : Int) ≤ (n : Int) := by omega
    go_region_held3 (fun w' => Ext w w') (first | (repeat (first | exact Below.refl _ _ | exact Ext.refl _ | assumption | refine Below.drew ?_ | refine below_drewN ?_ _ | refine below_alloc ?_ (by first | exact Nat.le_refl _ | assumption | (simp; done) | omega | (simp; omega)) _ | refine below_ext ?_ (by assumption) (by first | exact Nat.le_refl _ | assumption | (simp; done) | omega | (simp; omega)) | refine Ext.drew ?_ | refine Ext.drewN ?_ _ | refine Ext.alloc ?_ _ | refine Ext.setCell ?_ (by first | assumption | (simp; done) | (simp; omega)) _ | refine Below.setCell ?_ (by first | assumption | (simp; done) | (simp; omega)) _ | refine Ext.trans ?_ (by assumption))) | (trace_state; fail))
      (first
        | (go_at_call 56
           ((with_reducible refine (cloneb_any _ w.heap.size (Ext.size (by (repeat (first | exact Below.refl _ _ | exact Ext.refl _ | assumption | refine Below.drew ?_ | refine below_drewN ?_ _ | refine below_alloc ?_ (by first | exact Nat.le_refl _ | assumption | (simp; done) | omega | (simp; omega)) _ | refine below_ext ?_ (by assumption) (by first | exact Nat.le_refl _ | assumption | (simp; done) | omega | (simp; omega)) | refine Ext.drew ?_ | refine Ext.drewN ?_ _ | refine Ext.alloc ?_ _ | refine Ext.setCell ?_ (by first | assumption | (simp; done) | (simp; omega)) _ | refine Below.setCell ?_ (by first | assumption | (simp; done) | (simp; omega)) _ | refine Ext.trans ?_ (by assumption))))) A k c (l.take k) HL1.out (h1.at (by (repeat (first | exact Below.refl _ _ | exact Ext.refl _ | assumption | refine Below.drew ?_ | refine below_drewN ?_ _ | refine below_alloc ?_ (by first | exact Nat.le_refl _ | assumption | (simp; done) | omega | (simp; omega)) _ | refine below_ext ?_ (by assumption) (by first | exact Nat.le_refl _ | assumption | (simp; done) | omega | (simp; omega)) | refine Ext.drew ?_ | refine Ext.drewN ?_ _ | refine Ext.alloc ?_ _ | refine Ext.setCell ?_ (by first | assumption | (simp; done) | (simp; omega)) _ | refine Below.setCell ?_ (by first | assumption | (simp; done) | (simp; omega)) _ | refine Ext.trans ?_ (by assumption)))) (Nat.le_refl _)) (by omega)).mono ?_)
            rintro e w2 ⟨v2, rfl, hown2, e2⟩))
        | (go_at_call 56
           ((with_reducible refine (cloneb_any _ w.heap.size (Ext.size (by (repeat (first | exact Below.refl _ _ | exact Ext.refl _ | assumption | refine Below.drew ?_ | refine below_drewN ?_ _ | refine below_alloc ?_ (by first | exact Nat.le_refl _ | assumption | (simp; done) | omega | (simp; omega)) _ | refine below_ext ?_ (by assumption) (by first | exact Nat.le_refl _ | assumption | (simp; done) | omega | (simp; omega)) | refine Ext.drew ?_ | refine Ext.drewN ?_ _ | refine Ext.alloc ?_ _ | refine Ext.setCell ?_ (by first | assumption | (simp; done) | (simp; omega)) _ | refine Below.setCell ?_ (by first | assumption | (simp; done) | (simp; omega)) _ | refine Ext.trans ?_ (by assumption))))) (shiftA A c k 1) (n - k) (c - k) (l.drop k) HL2.out (h2.at (by (repeat (first | exact Below.refl _ _ | exact Ext.refl _ | assumption | refine Below.drew ?_ | refine below_drewN ?_ _ | refine below_alloc ?_ (by first | exact Nat.le_refl _ | assumption | (simp; done) | omega | (simp; omega)) _ | refine below_ext ?_ (by assumption) (by first | exact Nat.le_refl _ | assumption | (simp; done) | omega | (simp; omega)) | refine Ext.drew ?_ | refine Ext.drewN ?_ _ | refine Ext.alloc ?_ _ | refine Ext.setCell ?_ (by first | assumption | (simp; done) | (simp; omega)) _ | refine Below.setCell ?_ (by first | assumption | (simp; done) | (simp; omega)) _ | refine Ext.trans ?_ (by assumption)))) (Nat.le_refl _)) (by omega)).mono ?_)
            rintro e w3 ⟨v3, rfl, hown3, e3⟩)))
    clear hsl
    go_wp2_with fail
    refine bodyPost_ret (results_tmp3 rfl _ _ _) rfl ?_
    refine ⟨v2, v3, by rw [if_neg HI.out]; rfl, ?_, ?_, by (repeat (first | exact Below.refl _ _ | exact Ext.refl _ | assumption | refine Below.drew ?_ | refine below_drewN ?_ _ | refine below_alloc ?_ (by first | exact Nat.le_refl _ | assumption | (simp; done) | omega | (simp; omega)) _ | refine below_ext ?_ (by assumption) (by first | exact Nat.le_refl _ | assumption | (simp; done) | omega | (simp; omega)) | refine Ext.drew ?_ | refine Ext.drewN ?_ _ | refine Ext.alloc ?_ _ | refine Ext.setCell ?_ (by first | assumption | (simp; done) | (simp; omega)) _ | refine Below.setCell ?_ (by first | assumption | (simp; done) | (simp; omega)) _ | refine Ext.trans ?_ (by assumption)))⟩
    · rw [if_neg HI.out, if_neg HI.out]
      exact own_ext hown2 e3
    · rw [if_neg HI.out, if_neg HI.out, ← Hn.out]
      exact hown3

/-- fields.taken, of two octets -/
def TakenOk (l : List UInt8) (w : World) (e : Ending) (w' : World) : Prop :=
  ∃ v, e = .returned (.tuple #[.int .i64 (if l.length < 2 then 0 else val (l.take 2)), v, .int .i64 (if l.length < 2 then 8 else 0)]) ∧
    w'.ownsRow w.heap.size 5 1 v (if l.length < 2 then 0 else l.length - 2) (bytes (if l.length < 2 then [] else l.drop 2)) ∧ Ext w w'
theorem two_small (l : List UInt8) (h : ¬ l.length < 2) : numV (l.take 2) = val (l.take 2) ∧ numE (l.take 2) = 0 := by
  have h1 : (l.take 2).length = 2 := by rw [List.length_take]; omega
  have h2 := val_lt (l.take 2)
  rw [h1] at h2
  rw [numV, numE, h1, if_neg (by omega), if_neg (by omega), if_neg (by omega), if_neg (by omega), if_neg (by omega), if_neg (by omega)]
  exact ⟨rfl, rfl⟩
theorem three_small (l : List UInt8) (h : ¬ l.length < 3) : numV (l.take 3) = val (l.take 3) ∧ numE (l.take 3) = 0 ∧ val (l.take 3) < 16777216 := by
  have h1 : (l.take 3).length = 3 := by rw [List.length_take]; omega
  have h2 := val_lt (l.take 3)
  rw [h1] at h2
  rw [numV, numE, h1, if_neg (by omega), if_neg (by omega), if_neg (by omega), if_neg (by omega), if_neg (by omega), if_neg (by omega)]
  exact ⟨rfl, rfl, h2⟩
set_option maxRecDepth 100000 in
set_option maxHeartbeats 1000000 in
theorem taken_any (w : World) (A : Option Addr) (n c : Nat) (l : List UInt8) (hn : n = l.length) (hnc : n ≤ c) (hr : Rd w 0 w.heap.size A (bytes l)) (hb : n ≤ 150000000000000) (hc : c ≤ 9223372036854775807) :
    Calls Tryz.prog 133 #[.slice A n c, .int .i64 2] w (TakenOk l w) := by
  have Hn := Lib.hid hn
  by_cases h2 : l.length < 2
  · have HI := Lib.hid h2
    clear h2 hn
    go_enter Tryz.func133, Tryz.ntmps133
    go_wp2_with fail
    refine (cut_any w A n c l Hn.out hnc hr hb hc 2 2 rfl).mono ?_
    rintro e w2 ⟨v1, v2, rfl, hown1, hown2, e2⟩
    rw [if_pos HI.out]
    clear hown1 hown2
    go_wp2_with fail
    refine bodyPost_ret (results_tmp3 rfl _ _ _) rfl ?_
    exact ⟨_, by rw [if_pos HI.out, if_pos HI.out]; rfl, by rw [if_pos HI.out, if_pos HI.out]; exact World.ownsRow_nil _ _ _ _, e2⟩
  · obtain ⟨x1, x2⟩ := two_small l h2
    have X := Lib.hid x1
    have Y := Lib.hid x2
    have HI := Lib.hid h2
    have HL : Hid (2 = (l.take 2).length) := by rw [Hid, List.length_take]; omega
    clear h2 hn x1 x2
    go_enter Tryz.func133, Tryz.ntmps133
    go_wp2_with fail
    refine (cut_any w A n c l Hn.out hnc hr hb hc 2 2 rfl).mono ?_
    rintro e w2 ⟨v1, v2, rfl, hown1, hown2, e2⟩
    rw [if_neg HI.out] at hown1 hown2 ⊢
    rw [if_neg HI.out] at hown1 hown2
    obtain ⟨A1, c1, rfl, _, _, _⟩ := own_form hown1
    go_wp2_with fail
    refine (number_any w2 A1 2 c1 _ _ (l.take 2) HL.out (by omega) (Rd.of_own hown1) (Nat.le_refl _)).mono ?_
    rintro e w3 ⟨rfl, e3⟩
    rw [X.out, Y.out]
    go_wp2_with fail
    refine bodyPost_ret (results_tmp3 rfl _ _ _) rfl ?_
    exact ⟨v2, by rw [if_neg HI.out, if_neg HI.out]; rfl, by rw [if_neg HI.out, if_neg HI.out]; exact own_ext hown2 e3, by (repeat (first | exact Below.refl _ _ | exact Ext.refl _ | assumption | refine Below.drew ?_ | refine below_drewN ?_ _ | refine below_alloc ?_ (by first | exact Nat.le_refl _ | assumption | (simp; done) | omega | (simp; omega)) _ | refine below_ext ?_ (by assumption) (by first | exact Nat.le_refl _ | assumption | (simp; done) | omega | (simp; omega)) | refine Ext.drew ?_ | refine Ext.drewN ?_ _ | refine Ext.alloc ?_ _ | refine Ext.setCell ?_ (by first | assumption | (simp; done) | (simp; omega)) _ | refine Below.setCell ?_ (by first | assumption | (simp; done) | (simp; omega)) _ | refine Ext.trans ?_ (by assumption)))⟩

/-- fields.Read -/
def ReadOk (l : List UInt8) (w : World) (e : Ending) (w' : World) : Prop :=
  ∃ v, e = .returned (.tuple #[v, .int .i64 (rd l).1]) ∧ w'.ownsRow w.heap.size 9 1 v (rd l).2.length ((rd l).2.map Value.string) ∧ Ext w w'
theorem read_fail {l : List UInt8} {w w' : World} {r : Int} (h : rd l = (r, [])) (he : Ext w w') : ReadOk l w (.returned (.tuple #[.slice none 0 0, .int .i64 r])) w' :=
  ⟨_, by rw [h], by rw [h]; exact World.ownsRow_nil _ _ _ _, he⟩

set_option maxRecDepth 100000 in
set_option maxHeartbeats 2000000 in
theorem read_any (w : World) (A : Option Addr) (n c : Nat) (l : List UInt8) (hn : n = l.length) (hnc : n ≤ c) (hr : Rd w 0 w.heap.size A (bytes l)) (hb : n ≤ 150000000000000) (hc : c ≤ 9223372036854775807) :
    Calls Tryz.prog 105 #[.slice A n c] w (ReadOk l w) := by
  obtain ⟨i0, hi0, hz0, hz1, hz2⟩ := info_parts info9
  obtain ⟨j0, hj0, hy0, hy1, hy2⟩ := info_parts info5
  have Hn := Lib.hid hn
  by_cases h2 : l.length < 2
  · have HR : Hid (rd l = (8, [])) := by rw [Hid, rd, if_pos h2]
    have HI := Lib.hid h2
    clear h2 hn
    go_enter Tryz.func105, Tryz.ntmps105
    go_wp2_with fail
    refine (taken_any w A n c l Hn.out hnc hr hb hc).mono ?_
    rintro e w2 ⟨v, rfl, hown, e2⟩
    rw [if_pos HI.out, if_pos HI.out]
    clear hown
    go_wp2_with fail
    go_ret2
    exact read_fail HR.out e2
  · have HI := Lib.hid h2
    by_cases h3 : 1024 < val (l.take 2)
    · have HR : Hid (rd l = (3, [])) := by rw [Hid, rd, if_neg h2, if_pos h3]
      clear h2 hn
      go_enter Tryz.func105, Tryz.ntmps105
      go_wp2_with fail
      refine (taken_any w A n c l Hn.out hnc hr hb hc).mono ?_
      rintro e w2 ⟨v, rfl, hown, e2⟩
      rw [if_neg HI.out, if_neg HI.out]
      clear hown
      go_wp2_with fail
      go_ret2
      exact read_fail HR.out e2
    · have HR : Hid (rd l = rl (val (l.take 2)) (l.drop 2) []) := by rw [Hid, rd, if_neg h2, if_neg h3]
      have hdl : (l.drop 2).length ≤ 150000000000000 := by rw [List.length_drop]; omega
      clear h2 hn
      go_enter Tryz.func105, Tryz.ntmps105
      go_wp2_with fail
      refine (taken_any w A n c l Hn.out hnc hr hb hc).mono ?_
      rintro e w2 ⟨v, rfl, hown, e2⟩
      rw [if_neg HI.out, if_neg HI.out]
      rw [if_neg HI.out, if_neg HI.out, ← List.length_drop] at hown
      generalize val (l.take 2) = N at *
      generalize l.drop 2 = l2 at *
      obtain ⟨A2, c2, rfl, hc21, hc22, _⟩ := own_form hown
      have hrd2 := (Rd.of_own hown).more (Nat.zero_le _) (Nat.le_refl _)
      simp only [maxLen] at hc22
      clear hown hr hnc hc hb
      go_wp2_with fail
      go_loopw [0, 6, 23] (fun b o i wr => ∃ (k : Nat) (rest : List UInt8) (out : List ByteArray) (A' : Option Addr) (c' : Nat), k ≤ N ∧ i = .int .i64 k ∧ b = .slice A' rest.length c' ∧ rest.length ≤ c' ∧ c' ≤ 9223372036854775807 ∧ rest.length ≤ 150000000000000 ∧ Rd w2 0 w2.heap.size A' (bytes rest) ∧
        out.length ≤ k ∧ wr.ownsRow w2.heap.size 9 1 o out.length (out.map Value.string) ∧ rl (N - k) rest out = rd l ∧ Ext w2 wr) (fun _ _ i _ => N - (intOf i).toNat)
      case atStart => exact ⟨0, l2, [], A2, c2, Nat.zero_le _, rfl, rfl, hc21, hc22, hdl, hrd2, Nat.le_refl _, World.ownsRow_nil _ _ _ _, HR.out.symm, Ext.refl _⟩
      case round =>
        clear hrd2 hc21 hc22 hdl
        obtain ⟨k, rest, out, A', c', hk, rfl, rfl, hrc, hc', hrl, hrd, hol, hown, hrun, e3⟩ := hrel
        by_cases hlt : k < N
        · have hNk : N - k = (N - (k + 1)) + 1 := by omega
          rw [hNk, rl] at hrun
          clear hNk
          by_cases r3 : rest.length < 3
          · rw [if_pos r3] at hrun
            have HRun := Lib.hid hrun.symm
            clear hrun
            go_wp2_with fail
            go_ret2
            exact read_fail HRun.out (e2.trans e3)
          · rw [if_neg r3] at hrun
            obtain ⟨t1, t2, t3⟩ := three_small rest r3
            have T1 := Lib.hid t1
            have T2 := Lib.hid t2
            have HRun := Lib.hid hrun
            have HL3 : Hid (3 = (rest.take 3).length) := by rw [Hid, List.length_take]; omega
            have hlen : (bytes rest).length = rest.length * 1 := by rw [bytes_length, Nat.mul_one]
            have hsl : ∀ W, (Instr.slice 33 (.slice A' rest.length c') (some (.int .i64 3)) none none).run Tryz.prog W = .ok (.slice (shiftA A' c' 3 1) (rest.length - 3) (c' - 3)) W := fun W => run_slice_from W 33 5 j0 1 Tryz.underlying33 hj0 hy1 A' _ c' 3 _ rfl (by omega)
            have hrd3 : Rd w2 0 w2.heap.size (shiftA A' c' 3 1) (bytes (rest.drop 3)) := by
              have := hrd.from_ hlen (k := 3) (by omega) hrc
              rwa [Nat.mul_one, bytes_drop] at this
            have hrt : Rd w2 0 w2.heap.size A' (bytes (rest.take 3)) := by
              have := hrd.take 3
              rwa [bytes_take] at this
            have hd3 : Hid ((rest.drop 3).length = rest.length - 3) := by rw [Hid, List.length_drop]
            clear hrun t1 t2 hlen hrd
            generalize val (rest.take 3) = q at *
            go_wp2_with fail
            refine (number_any wr A' 3 c' _ _ (rest.take 3) HL3.out (by omega) (hrt.ext e3 (Nat.le_refl _)) e3.size).mono ?_
            rintro e w4 ⟨rfl, e4⟩
            rw [T1.out, T2.out]
            have e5 : Ext w2 w4 := by (repeat (first | exact Below.refl _ _ | exact Ext.refl _ | assumption | refine Below.drew ?_ | refine below_drewN ?_ _ | refine below_alloc ?_ (by first | exact Nat.le_refl _ | assumption | (simp; done) | omega | (simp; omega)) _ | refine below_ext ?_ (by assumption) (by first | exact Nat.le_refl _ | assumption | (simp; done) | omega | (simp; omega)) | refine Ext.drew ?_ | refine Ext.drewN ?_ _ | refine Ext.alloc ?_ _ | refine Ext.setCell ?_ (by first | assumption | (simp; done) | (simp; omega)) _ | refine Below.setCell ?_ (by first | assumption | (simp; done) | (simp; omega)) _ | refine Ext.trans ?_ (by assumption)))
            by_cases r4 : 65536 < q
            · have HRes := Lib.hid (by have h := HRun.out; rw [if_pos r4] at h; exact h.symm : rd l = (5, []))
              go_wp2_with fail
              go_ret2
              exact read_fail HRes.out (e2.trans e5)
            · by_cases r5 : rest.length - 3 < q
              · have HRes := Lib.hid (by have h := HRun.out; rw [if_neg r4, if_pos (by rw [hd3.out]; exact r5)] at h; exact h.symm : rd l = (8, []))
                go_wp2_with fail
                go_ret2
                exact read_fail HRes.out (e2.trans e5)
              · have HRes := Lib.hid (by have h := HRun.out; rw [if_neg r4, if_neg (by rw [hd3.out]; exact r5)] at h; exact h)
                obtain ⟨S, hS⟩ : ∃ S : ByteArray, S = ⟨((rest.drop 3).take q).toArray⟩ := ⟨_, rfl⟩
                have hr4 := hrd3.ext e5 (Nat.le_refl _)
                have hcv : (convert 33 9 (.slice (shiftA A' c' 3 1) q (c' - 3))).run Tryz.prog w4 = .ok (.string S) w4 := by
                  rw [hS]
                  refine run_conv_str w4 _ _ 5 Tryz.underlying33 Tryz.underlying5 Tryz.underlying9 _ _ _ q _ ((rest.drop 3).take q) ?_ (by have := hr4.take q; rwa [bytes_take] at this)
                  rw [List.length_take, hd3.out]
                  omega
                have hslq : ∀ W, (Instr.slice 33 (.slice (shiftA A' c' 3 1) (rest.length - 3) (c' - 3)) (some (.int .i64 (q : Int))) none none).run Tryz.prog W = .ok (.slice (shiftA (shiftA A' c' 3 1) (c' - 3) q 1) (rest.length - 3 - q) (c' - 3 - q)) W := fun W => run_slice_from W 33 5 j0 1 Tryz.underlying33 hj0 hy1 _ _ _ q _ rfl (by omega)
                have hrq : Rd w2 0 w2.heap.size (shiftA (shiftA A' c' 3 1) (c' - 3) q 1) (bytes ((rest.drop 3).drop q)) := by
                  have := hrd3.from_ (n := rest.length - 3) (k := q) (c := c' - 3) (size := 1) (by rw [bytes_length, hd3.out, Nat.mul_one]) (by omega) (by omega)
                  rwa [Nat.mul_one, bytes_drop] at this
                have hrq4 := Lib.hid hrq
                have HSq := Lib.hid hS
                have own2 := own_ext hown e4
                have b1 : (q : Int) ≤ ((c' - 3 : Nat) : Int) := by omega
                have b2 : (0 : Int) ≤ (q : Int) := by omega
                have b3 : (q : Int) ≤ ((rest.length - 3 : Nat) : Int) := by omega
                have e6 : Ext w w4 := e2.trans e5
                clear hS hr4 hrq hrd3 hrt hown e3 e4
                go_wp2_with
                  (at_builtin
                   refine list_app _ rfl (.tmp 44) (.tmp 49) _ rfl 9 i0 _ 1 16 Tryz.underlying126 hi0 hz0 hz1 hz2 rfl (by omega) _ _ out.length _ rfl (own2.alloc _) 0 _ _ 1 1 [.string S] rfl rfl
                     ((rd_new _ _ _).more (Nat.zero_le _) (Nat.le_refl _)) (by simp [Value.oneCell']) (by simp only [maxLen]; omega) (by omega) (by have := e5.size; simp; omega) ?_
                   intro v7 w7 hown7 he7 _ _
                   have e9 : Ext w2 w7 := he7 _ (e5.alloc _) (Nat.le_refl _)
                   clear he7 own2)
                go_roundw
                case rel =>
                  refine ⟨k + 1, (rest.drop 3).drop q, out ++ [S], _, c' - 3 - q, by omega, by go_num, by rw [List.length_drop, hd3.out], ?_, by omega, ?_, hrq4.out, ?_, ?_, ?_, e9⟩
                  · rw [List.length_drop, hd3.out]; omega
                  · rw [List.length_drop, hd3.out]; omega
                  · rw [List.length_append]; simp; omega
                  · rw [List.length_append, List.map_append]; exact hown7
                  · rw [HSq.out]; exact HRes.out
                case measure => simp [intOf]; omega
        · obtain rfl : k = N := by omega
          rw [Nat.sub_self, rl] at hrun
          by_cases r0 : 0 < rest.length
          · rw [if_pos r0] at hrun
            have HRun := Lib.hid hrun.symm
            clear hrun
            go_wp2_with fail
            go_ret2
            exact read_fail HRun.out (e2.trans e3)
          · rw [if_neg r0] at hrun
            have HRun := Lib.hid hrun.symm
            clear hrun
            go_wp2_with fail
            go_ret2
            exact ⟨_, by rw [HRun.out]; rfl, by rw [HRun.out]; exact own_lower hown e2.size, e2.trans e3⟩
end Go.Proofs.YtfongpdeflfioaaGreat
/- bytes.Equal, pages.Decode. -/
namespace Go.Proofs.YtfongpdeflfioaaGreat
open Go.RowKit Go.Maps Go.Sort Go.Shelf
set_option linter.unusedVariables false
set_option linter.unusedSimpArgs false

theorem run_sl_to {P : Program} (w : World) (t e : TypeId) (inf : TypeInfo) (ht : P.underlying t = some (.slice e)) (hi : P.info? e = some inf) (hs : inf.size = 1) (b o n c m : Nat) (M : Int) (hM : M = (m : Int)) (hm : m ≤ c) :
    (Instr.slice t (.slice (some ⟨b, o, none⟩) n c) none (some (.int .i64 M)) none).run P w = .ok (.slice (some ⟨b, o, none⟩) m c) w := by
  subst hM
  have hb : (Instr.sliceBounds true n c none (some (.int .i64 (m : Int))) none).run P w = .ok (0, m, c) w := by
    simp [Instr.sliceBounds, run_sliceBound (P := P) w .i64 (m : Int) c .sliceAcap (by omega) (by omega)]
  simp [Instr.slice, run_underlying ht, hb, sizeOf, typeInfo, hi, hs, add_lit]
theorem run_sl_mid {P : Program} (w : World) (t e : TypeId) (inf : TypeInfo) (ht : P.underlying t = some (.slice e)) (hi : P.info? e = some inf) (hs : inf.size = 1) (b o n c k m : Nat) (K M : Int) (hK : K = (k : Int)) (hM : M = (m : Int)) (hkm : k ≤ m) (hm : m ≤ c) (hkc : k < c) :
    (Instr.slice t (.slice (some ⟨b, o, none⟩) n c) (some (.int .i64 K)) (some (.int .i64 M)) none).run P w = .ok (.slice (some ⟨b, o + k, none⟩) (m - k) (c - k)) w := by
  subst hK
  subst hM
  have hb : (Instr.sliceBounds true n c (some (.int .i64 (k : Int))) (some (.int .i64 (m : Int))) none).run P w = .ok (k, m, c) w := by
    simp [Instr.sliceBounds, run_sliceBound (P := P) w .i64 (m : Int) c .sliceAcap (by omega) (by omega), run_sliceBound (P := P) w .i64 (k : Int) m .sliceB (by omega) (by omega)]
  have hne : ¬ c = k := by omega
  simp [Instr.slice, run_underlying ht, hb, sizeOf, typeInfo, hi, hs, hne, add_lit]
theorem toArray_inj {a b : List UInt8} : ((⟨a.toArray⟩ : ByteArray).toList == (⟨b.toArray⟩ : ByteArray).toList) = decide (a = b) := by
  rw [Lib.toList_data, Lib.toList_data]
  rw [Bool.eq_iff_iff]
  simp
set_option maxRecDepth 100000 in
set_option maxHeartbeats 1000000 in
theorem bequal_any (w : World) (A B : Option Addr) (n c m d : Nat) (a b : List UInt8) (hn : n = a.length) (hm : m = b.length) (hA : Rd w 0 w.heap.size A (bytes a)) (hB : Rd w 0 w.heap.size B (bytes b)) :
    Calls Tryz.prog 78 #[.slice A n c, .slice B m d] w fun e w' => e = .returned (.bool (decide (a = b))) ∧ Ext w w' := by
  have c1 : (convert 33 9 (.slice A n c)).run Tryz.prog w = .ok (.string ⟨a.toArray⟩) w := run_conv_str w _ _ 5 Tryz.underlying33 Tryz.underlying5 Tryz.underlying9 _ _ A n c a hn hA
  have c2 : (convert 33 9 (.slice B m d)).run Tryz.prog w = .ok (.string ⟨b.toArray⟩) w := run_conv_str w _ _ 5 Tryz.underlying33 Tryz.underlying5 Tryz.underlying9 _ _ B m d b hm hB
  have HT := Lib.hid (toArray_inj (a := a) (b := b))
  generalize decide (a = b) = V at *
  generalize (⟨a.toArray⟩ : ByteArray) = sa at *
  generalize (⟨b.toArray⟩ : ByteArray) = sb at *
  clear hA hB hn hm
  go_enter Tryz.func78, Tryz.ntmps78
  go_wp2_with fail
  go_ret
  exact ⟨retB (by rw [← HT.out]), Ext.refl _⟩

/-- what a sector says -/
def dcN (s : List UInt8) : Nat := val (s.take 2)
def dcX (s : List UInt8) : Nat := val ((s.drop 2).take 2)
def dcD (s : List UInt8) : List UInt8 := (s.drop 4).take (dcN s)
def dcOk (s : List UInt8) : Bool := decide (s.length = 64) && decide (dcN s ≤ 52) && decide (pgE (dcD s) (dcX s : Int) = 0) && decide (s = pgB (dcD s) (dcX s : Int))
/-- what pages.Decode tells -/
def DcOut (w : World) (s : List UInt8) (e : Ending) (w' : World) : Prop :=
  ∃ v n, e = .returned (.tuple #[v, .int .i64 (if dcOk s = true then (dcX s : Int) else 0), .int .i64 (if dcOk s = true then 0 else 21)]) ∧ w'.ownsRow w.heap.size 5 1 v n (bytes (if dcOk s = true then dcD s else [])) ∧ Ext w w'
theorem dcOut_bad {w w' : World} {s : List UInt8} (h : dcOk s = false) (e : Ext w w') : DcOut w s (.returned (.tuple #[.slice none 0 0, .int .i64 0, .int .i64 21])) w' := by
  unfold DcOut
  rw [h]
  exact ⟨_, 0, rfl, World.ownsRow_nil _ _ _ _, e⟩
theorem num2 (l : List UInt8) (h : l.length = 2) : numV l = (val l : Int) := by
  have := val_lt l
  rw [h] at this
  unfold numV
  rw [if_neg (by omega), if_neg (by omega), if_neg (by omega)]
set_option maxRecDepth 100000 in
set_option maxHeartbeats 8000000 in
theorem pgdec_any (w : World) (A : Option Addr) (n c : Nat) (s : List UInt8) (hn : n = s.length) (hr : Rd w 0 w.heap.size A (bytes s)) (hnc : n ≤ c) (hm : c ≤ maxLen) :
    Calls Tryz.prog 37 #[.slice A n c] w (DcOut w s) := by
  obtain ⟨i0, hi0, hz0, hz1, hz2⟩ := info_parts info5
  simp only [maxLen] at hm
  have Hn := Lib.hid hn
  have HR := Lib.hid hr
  have HO := Lib.hid (show dcOk s = (decide (s.length = 64) && decide (dcN s ≤ 52) && decide (pgE (dcD s) (dcX s : Int) = 0) && decide (s = pgB (dcD s) (dcX s : Int))) from rfl)
  by_cases h1 : n = 64
  · obtain ⟨b, o, rfl, hb1, hb2, hcs⟩ := hr (fun e => by have := congrArg List.length e; rw [bytes_length, ← hn] at this; simp at this; omega)
    clear hr hcs hb1 hb2 hn
    have HT1 := Lib.hid (show Rd w 0 w.heap.size (some ⟨b, o, none⟩) (bytes (s.take 2)) by rw [← bytes_take]; exact HR.out.take 2)
    have HT2 := Lib.hid (show Rd w 0 w.heap.size (some ⟨b, o + 2, none⟩) (bytes ((s.drop 2).take 2)) by rw [← bytes_take, ← bytes_drop]; exact (HR.out.step 2).take 2)
    have HL := Lib.hid (show s.length = 64 by rw [← Hn.out]; exact h1)
    have HN1 := Lib.hid (show numV (s.take 2) = (dcN s : Int) from num2 _ (by rw [List.length_take, HL.out]; rfl))
    have HN2 := Lib.hid (show numV ((s.drop 2).take 2) = (dcX s : Int) from num2 _ (by rw [List.length_take, List.length_drop, HL.out]; rfl))
    have hx : dcX s < 65536 := by
      have := val_lt ((s.drop 2).take 2)
      rw [List.length_take, List.length_drop, HL.out] at this
      exact this
    have hN : dcN s < 65536 := by
      have := val_lt (s.take 2)
      rw [List.length_take, HL.out] at this
      exact this
    have HC1 := Lib.hid (fun W (hW : Ext w W) => number_any W (some ⟨b, o, none⟩) 2 c 0 W.heap.size (s.take 2) (by rw [List.length_take, HL.out]; rfl) (by decide) (Rd.at HT1.out hW (Nat.le_refl _)) (Nat.le_refl _))
    have HC2 := Lib.hid (fun W (hW : Ext w W) => number_any W (some ⟨b, o + 2, none⟩) 2 (c - 2) 0 W.heap.size ((s.drop 2).take 2) (by rw [List.length_take, List.length_drop, HL.out]; rfl) (by decide) (Rd.at HT2.out hW (Nat.le_refl _)) (Nat.le_refl _))
    rw [HN1.out] at HC1
    rw [HN2.out] at HC2
    have hs1 := fun W => run_sl_to (P := Tryz.prog) W 33 5 i0 Tryz.underlying33 hi0 hz1 b o n c 2 2 rfl (by omega)
    have hs2 := fun W => run_sl_mid (P := Tryz.prog) W 33 5 i0 Tryz.underlying33 hi0 hz1 b o n c 2 4 2 4 rfl rfl (by omega) (by omega) (by omega)
    clear HN1 HN2 HT1 HT2
    generalize numE (s.take 2) = E1 at *
    generalize numE ((s.drop 2).take 2) = E2 at *
    obtain ⟨nn, hnn⟩ : ∃ nn, nn = dcN s := ⟨_, rfl⟩
    obtain ⟨xx, hxx⟩ : ∃ xx, xx = dcX s := ⟨_, rfl⟩
    rw [← hnn] at HC1 hN
    rw [← hxx] at HC2 hx
    have HNN := Lib.hid hnn
    have HXX := Lib.hid hxx
    clear hnn hxx
    subst h1
    go_enter Tryz.func37, Tryz.ntmps37
    by_cases h2 : 52 < nn
    · have HB := Lib.hid (show dcOk s = false by rw [HO.out, ← HNN.out]; simp; omega)
      go_wp2_with (first | (go_at_call 79; refine (HC1.out _ (by (repeat (first | exact Below.refl _ _ | exact Ext.refl _ | assumption | refine Below.drew ?_ | refine below_drewN ?_ _ | refine below_alloc ?_ (by first | exact Nat.le_refl _ | assumption | (simp; done) | omega | (simp; omega)) _ | refine below_ext ?_ (by assumption) (by first | exact Nat.le_refl _ | assumption | (simp; done) | omega | (simp; omega)) | refine Ext.drew ?_ | refine Ext.drewN ?_ _ | refine Ext.alloc ?_ _ | refine Ext.setCell ?_ (by first | assumption | (simp; done) | (simp; omega)) _ | refine Below.setCell ?_ (by first | assumption | (simp; done) | (simp; omega)) _ | refine Ext.trans ?_ (by assumption))))).mono ?_; clear HC1; rintro e w1 ⟨rfl, e1⟩) | (go_at_call 79; refine (HC2.out _ (by (repeat (first | exact Below.refl _ _ | exact Ext.refl _ | assumption | refine Below.drew ?_ | refine below_drewN ?_ _ | refine below_alloc ?_ (by first | exact Nat.le_refl _ | assumption | (simp; done) | omega | (simp; omega)) _ | refine below_ext ?_ (by assumption) (by first | exact Nat.le_refl _ | assumption | (simp; done) | omega | (simp; omega)) | refine Ext.drew ?_ | refine Ext.drewN ?_ _ | refine Ext.alloc ?_ _ | refine Ext.setCell ?_ (by first | assumption | (simp; done) | (simp; omega)) _ | refine Below.setCell ?_ (by first | assumption | (simp; done) | (simp; omega)) _ | refine Ext.trans ?_ (by assumption))))).mono ?_; clear HC2; rintro e w2 ⟨rfl, e2⟩))
      go_ret3
      exact dcOut_bad HB.out (e1.trans e2)
    · have HD := Lib.hid (show Rd w 0 w.heap.size (some ⟨b, o + 4, none⟩) (bytes (dcD s)) by rw [dcD, ← bytes_take, ← bytes_drop]; exact (HR.out.step 4).take _)
      have HDl := Lib.hid (show nn = (dcD s).length by rw [dcD, List.length_take, List.length_drop, HL.out, ← HNN.out]; omega)
      rw [← HNN.out, ← HXX.out] at HO
      have HOut := Lib.hid (show ∀ v m w', dcOk s = true → w'.ownsRow w.heap.size 5 1 v m (bytes (dcD s)) → Ext w w' → DcOut w s (.returned (.tuple #[v, .int .i64 (xx : Int), .int .i64 0])) w' from fun v m w' h1 h2 h3 => by
        unfold DcOut
        rw [h1, ← HXX.out]
        exact ⟨v, m, rfl, h2, h3⟩)
      generalize dcD s = D at *
      go_wp2_with (first | (go_at_call 79; refine (HC1.out _ (by (repeat (first | exact Below.refl _ _ | exact Ext.refl _ | assumption | refine Below.drew ?_ | refine below_drewN ?_ _ | refine below_alloc ?_ (by first | exact Nat.le_refl _ | assumption | (simp; done) | omega | (simp; omega)) _ | refine below_ext ?_ (by assumption) (by first | exact Nat.le_refl _ | assumption | (simp; done) | omega | (simp; omega)) | refine Ext.drew ?_ | refine Ext.drewN ?_ _ | refine Ext.alloc ?_ _ | refine Ext.setCell ?_ (by first | assumption | (simp; done) | (simp; omega)) _ | refine Below.setCell ?_ (by first | assumption | (simp; done) | (simp; omega)) _ | refine Ext.trans ?_ (by assumption))))).mono ?_; clear HC1; rintro e w1 ⟨rfl, e1⟩) | (go_at_call 79; refine (HC2.out _ (by (repeat (first | exact Below.refl _ _ | exact Ext.refl _ | assumption | refine Below.drew ?_ | refine below_drewN ?_ _ | refine below_alloc ?_ (by first | exact Nat.le_refl _ | assumption | (simp; done) | omega | (simp; omega)) _ | refine below_ext ?_ (by assumption) (by first | exact Nat.le_refl _ | assumption | (simp; done) | omega | (simp; omega)) | refine Ext.drew ?_ | refine Ext.drewN ?_ _ | refine Ext.alloc ?_ _ | refine Ext.setCell ?_ (by first | assumption | (simp; done) | (simp; omega)) _ | refine Below.setCell ?_ (by first | assumption | (simp; done) | (simp; omega)) _ | refine Ext.trans ?_ (by assumption))))).mono ?_; clear HC2; rintro e w2 ⟨rfl, e2⟩))
      have E2' : Ext w w2 := e1.trans e2
      refine (pgenc_any w2 (some ⟨b, o + 4, none⟩) nn (c - 4) D (xx : Int) HDl.out (Rd.at HD.out E2' (Nat.le_refl _)) (by omega) (by omega) (by omega)).mono ?_
      rintro e w3 ⟨v, n3, rfl, hr3, e3⟩
      have E3 : Ext w w3 := E2'.trans e3
      clear e1 e2 e3 E2'
      by_cases h3 : pgE D (xx : Int) = 0
      · rw [h3] at hr3 HO ⊢
        rw [if_pos rfl] at hr3
        generalize pgB D (xx : Int) = PB at *
        obtain ⟨A3, c3, rfl, _, _, _⟩ := own_form hr3
        have h3l : n3 = PB.length := by have := hr3.1; rw [bytes_length, Nat.mul_one] at this; exact this.symm
        have HE := Lib.hid (bequal_any w3 (some ⟨b, o, none⟩) A3 64 c n3 c3 s PB Hn.out h3l (Rd.at HR.out E3 (Nat.le_refl _)) ((Rd.of_own hr3).more (Nat.zero_le _) (Nat.le_refl _)))
        clear hr3 h3l h3
        cases hEq : decide (s = PB)
        · have HB := Lib.hid (show dcOk s = false by rw [HO.out, hEq]; simp)
          rw [hEq] at HE
          go_wp2_with (go_at_call 78; refine HE.out.mono ?_; rintro e w4 ⟨rfl, e4⟩)
          go_ret3
          exact dcOut_bad HB.out (E3.trans e4)
        · have HB := Lib.hid (show dcOk s = true by rw [HO.out, hEq, HL.out]; simp; omega)
          rw [hEq] at HE
          have HCl := Lib.hid (fun W (hW : Ext w W) => cloneb_any W w.heap.size hW.size (some ⟨b, o + 4, none⟩) nn (c - 4) D HDl.out (Rd.at HD.out hW (Nat.le_refl _)) (by omega))
          go_wp2_with (first | (go_at_call 78; refine HE.out.mono ?_; rintro e w4 ⟨rfl, e4⟩))
          refine (HCl.out w4 (E3.trans e4)).mono ?_
          rintro e w5 ⟨v5, rfl, hr5, e5⟩
          have HO5 := Lib.hid hr5
          clear hr5
          go_wp2_with fail
          go_ret3
          exact HOut.out v5 _ w5 HB.out HO5.out ((E3.trans e4).trans e5)
      · have HB := Lib.hid (show dcOk s = false by rw [HO.out]; simp [h3])
        clear hr3
        generalize pgE D (xx : Int) = PE at *
        go_wp2_with fail
        go_ret3
        exact dcOut_bad HB.out E3
  · have HB := Lib.hid (show dcOk s = false by rw [HO.out, ← Hn.out]; simp [h1])
    have h1' : ¬ (n : Int) = 64 := by omega
    go_enter Tryz.func37, Tryz.ntmps37
    go_wp2_with fail
    go_ret3
    exact dcOut_bad HB.out (Ext.refl _)
end Go.Proofs.YtfongpdeflfioaaGreat
/- scrub.Pages. -/
namespace Go.Proofs.YtfongpdeflfioaaGreat
open Go.RowKit Go.Maps Go.Sort Go.Shelf
set_option linter.unusedVariables false
set_option linter.unusedSimpArgs false

theorem infoL : (Tryz.prog.info? 29).map (fun i => (i.zero, i.size, i.bytes)) = some (some (.slice none 0 0), 1, 24) := by kernel_rfl
def toI (s : Loc) : SlI := ⟨s.A, s.n, s.c, s.xs⟩
def locsV (l : List Ob) : List SlI := l.map fun x => toI x.locs
theorem locsV_take (l : List Ob) (k : Nat) (h : k < l.length) : locsV (l.take (k + 1)) = locsV (l.take k) ++ [toI l[k].locs] := by
  rw [List.take_succ_eq_append_getElem h, locsV, List.map_append]; simp [locsV]
theorem locsV_flat (l : List Ob) : flatI (locsV l) = locsL l := by
  rw [flatI, locsV, List.flatMap_map]; rfl
theorem loc_ok {w : World} {s : Loc} (h : Loc.At w 0 w.heap.size s) : (toI s).ok w := ⟨h.len, h.rdi, h.all⟩
set_option maxRecDepth 100000 in
set_option maxHeartbeats 4000000 in
theorem pages_any (w : World) (s : Sto) (h : Sto.At w 0 w.heap.size s) (hs : s.small) (hlt9 : s.objs.n ≤ 9000000) : Calls Tryz.prog 10 #[.agg s.cells.toArray] w fun e w' => ∃ v, e = .returned v ∧ w'.ownsRow w.heap.size 3 1 v (uni (usedL s)).length (ints (uni (usedL s))) ∧ Ext w w' := by
  obtain ⟨i0, hi0, hz0, hz1, hz2⟩ := info_parts infoL
  have HR := Lib.hid h.objs.rd
  have Hn := Lib.hid h.objs.len
  have HA := Lib.hid h.objs.all
  have hm := hlt9
  have HI := Lib.hid h.idx
  have HU := Lib.hid (show usedL s = s.idx.xs ++ locsL s.objs.xs from rfl)
  have HT := Lib.hid hs.used
  clear h hs hlt9
  generalize usedL s = U at *
  obtain ⟨dev, ub, ⟨A, n, c, xs⟩, ix⟩ := s
  simp only [Sto.cells, Sl.val] at *
  go_enter Tryz.func10, Tryz.ntmps10
  go_upto_region 1 with fail
  generalize hwH : World.alloc w _ = w1; have HH := Lib.hid (Heap.one hwH); clear hwH
  go_upto_region 2 with (first | (refine shl_load1 HH.out rfl rfl rfl 0 rfl rfl (by decide +kernel) ?_))
  generalize hwA : World.alloc w1 _ = w2
  have HH2 := Lib.hid (HH.out.allocRow hwA (n := 1) (size := 1) rfl (by decide))
  clear HH hwA
  have HH := HH2
  clear HH2
  go_upto_region 3 with (first | (refine shl_load1 HH.out rfl rfl rfl 1 rfl rfl (by decide +kernel) ?_))
  have HH2 := Lib.hid (HH.out.only 0 rfl)
  clear HH
  have HH := HH2
  clear HH2
  go_loopw [3, 12] (fun v i wr => ∃ k : Nat, k ≤ n ∧ i = .int .i64 k ∧ (∃ vA vc, v = .slice vA (k + 1) vc ∧ Hid (Heap w [.row 29 1 (.slice vA (k + 1) vc) (k + 1) ((toI ix :: locsV (xs.take k)).map SlI.val)] wr))) (fun _ i _ => n - (intOf i).toNat)
  case atStart => exact ⟨0, Nat.zero_le _, rfl, _, _, rfl, HH⟩
  case round =>
    clear HH
    obtain ⟨k, hk, rfl, vA, vc, rfl, HH⟩ := hrel
    by_cases hlt : k < n
    · have l1 : k < xs.length := by rw [← Hn.out]; exact hlt
      obtain ⟨b1, o1, rfl, hb1, f0, f1, f2⟩ := rd_ob (HR.out.ext HH.out.ext (Nat.le_refl _)) l1
      have HS := Lib.hid (locsV_take xs k l1)
      generalize locsV (xs.take k) = Y at *
      generalize xs[k] = x at *
      obtain ⟨key, ⟨dA, dn, dc, dx⟩, ⟨lA, ln, lc, lx⟩⟩ := x
      simp only [Sl.val] at f1 f2
      dsimp only at f0
      go_upto_region 5 with fail
      generalize hwH : World.alloc wr _ = w5
      have HH2 := Lib.hid (HH.out.allocE hwH)
      clear HH hwH f0 f1 f2
      have HH := HH2
      clear HH2
      (iterate 60 (first | (refine shl_load1 HH.out rfl rfl rfl 0 rfl rfl (by decide +kernel) ?_) | at_builtin | go_step))
      generalize hwA : World.alloc w5 _ = w6
      have HH2 := Lib.hid (HH.out.allocE hwA)
      clear HH hwA
      have HH := HH2
      clear HH2
      refine shl_app (e := 29) (size := 1) (bytes := 24) (news := [.slice lA ln lc]) (lo := w.heap.size) (.tmp 16) (.tmp 19) _ rfl rfl Tryz.underlying72 hi0 hz0 hz1 hz2 rfl (by omega) HH.out 2 rfl rfl (m := 1) rfl rfl (HH.out.boxRd 0 rfl) (by simp [Value.oneCell']) (by simp only [maxLen]; omega) (by omega) ?_
      intro v7 w7 hh7 h7
      obtain ⟨A7, c7, rfl⟩ := h7
      have HH7 := Lib.hid (hh7.only 2 rfl)
      clear HH hh7
      go_wp2_with fail
      go_roundw
      case rel =>
        refine ⟨k + 1, by omega, by go_num, A7, c7, rfl, ?_⟩
        have h := HH7.out
        rw [HS.out]
        exact Lib.hid (by simpa [SlI.val, toI] using h)
      case measure => simp [intOf]; omega
    · obtain rfl : k = n := by omega
      have ht : xs.take k = xs := List.take_of_length_le (by rw [← Hn.out]; exact Nat.le_refl _)
      rw [ht] at HH
      have hfl : flatI (toI ix :: locsV xs) = U := by
        rw [HU.out, flatI, List.flatMap_cons]
        show (toI ix).l ++ flatI (locsV xs) = _
        rw [locsV_flat]
        rfl
      have HC := Lib.hid (union_any wr vA (k + 1) vc (toI ix :: locsV xs) (by simp [locsV]; exact Hn.out) (by omega) ((HH.out.rowRd 0 rfl).more (Nat.zero_le _) (Nat.le_refl _)) (fun q hq => by
        rcases List.mem_cons.1 hq with rfl | hq
        · exact (loc_ok HI.out).ext HH.out.ext
        · obtain ⟨x, hx, rfl⟩ := List.mem_map.1 hq
          exact (loc_ok (HA.out x hx).locs).ext HH.out.ext) (by rw [hfl]; exact HT.out))
      rw [hfl] at HC
      clear ht hfl
      go_wp2_with (go_at_call 33; refine HC.out.mono ?_; rintro e w5 ⟨v, rfl, hr, e5⟩; have HO := Lib.hid (own_lower hr HH.out.ext.size); clear hr)
      go_ret
      exact ⟨v, rfl, HO.out, HH.out.ext.trans e5⟩
end Go.Proofs.YtfongpdeflfioaaGreat
/- slices.Chunk over octets: its iterator's rounds are the parts, in order. -/
namespace Go.Proofs.YtfongpdeflfioaaGreat
open Go.RowKit Go.Shelf
set_option linter.unusedVariables false
set_option linter.unusedSimpArgs false
attribute [local go_sem] Oper.semAt_some

/-- part number k of a slice of n in parts of m -/
def chV (A : Option Addr) (m n k : Nat) : Value := .slice (A.map (·.add (k * m))) (min m (n - k * m)) (min m (n - k * m))
/-- how many parts -/
def chN (m n : Nat) : Nat := (n + m - 1) / m
theorem chN_lt {m n k : Nat} (hm : 1 ≤ m) : k < chN m n ↔ k * m < n := by
  unfold chN
  rw [Nat.lt_div_iff_mul_lt hm]
  omega
theorem run_slice3 {P : Program} (w : World) (t e : TypeId) (inf : TypeInfo) (ht : P.underlying t = some (.slice e)) (hi : P.info? e = some inf) (hs : inf.size = 1) (A : Option Addr) (n c i j : Nat) (I J : Int) (hI : I = (i : Int)) (hJ : J = (j : Int)) (hij : i < j) (hj : j ≤ c) :
    (Instr.slice t (.slice A n c) (some (.int .i64 I)) (some (.int .i64 J)) (some (.int .i64 J))).run P w = .ok (.slice (A.map (·.add i)) (j - i) (j - i)) w := by
  subst hI
  subst hJ
  have hb : (Instr.sliceBounds true n c (some (.int .i64 (i : Int))) (some (.int .i64 (j : Int))) (some (.int .i64 (j : Int)))).run P w = .ok (i, j, j) w := by
    simp [Instr.sliceBounds, run_sliceBound (P := P) w .i64 (j : Int) c .slice3Acap (by omega) (by omega), run_sliceBound (P := P) w .i64 (j : Int) j .slice3B (by omega) (by omega), run_sliceBound (P := P) w .i64 (i : Int) j .slice3C (by omega) (by omega)]
  have hne : ¬ j = i := by omega
  simp [Instr.slice, run_underlying ht, hb, sizeOf, typeInfo, hi, hs, hne]

set_option maxRecDepth 100000 in
set_option maxHeartbeats 4000000 in
theorem chunk1_any (l bs bm : Nat) (A : Option Addr) (n c m : Nat) (hm : 1 ≤ m) (hM : m ≤ 1000000) (hN : n ≤ 100000000000) (hnc : n ≤ c) (J : List Nat → World → Prop)
    (hJ : ∀ pre W, J pre W → W.cell? ⟨bs, 0, none⟩ = some (.slice A n c) ∧ W.cell? ⟨bm, 0, none⟩ = some (.int .i64 (m : Int)))
    (hJd : ∀ pre W, J pre W → J pre W.drew)
    (hY : ∀ pre x W1, J pre W1 → pre.length < chN m n → x = pre.length → YieldAt Fence.wide 0 Tryz.prog l #[chV A m n x] W1 fun e W' => e = .returned (.bool true) ∧ J (pre ++ [x]) W')
    (W : World) (h0 : J [] W) :
    Calls Tryz.prog 112 #[.func (.yield l) #[] #[], .pointer (some ⟨bs, 0, none⟩), .pointer (some ⟨bm, 0, none⟩)] W fun e W' => (∃ v, e = .returned v) ∧ ∃ xs, xs = List.range (chN m n) ∧ J xs W' := by
  obtain ⟨i0, hi0, hz0, hz1, hz2⟩ := info_parts info5
  have HY := Lib.hid hY
  have HJ := Lib.hid hJ
  have HD := Lib.hid hJd
  clear hY hJ hJd
  refine (callsIn_wide (n := 1)).1 (callsIn_of_wp Tryz.func112 rfl trivial ?_ rfl)
  simp only [Tryz.ntmps112, List.size_toArray, List.length_cons, List.length_nil, Nat.reduceAdd, Nat.reduceSub, Array.replicate_succ, Array.replicate_zero, List.push_toArray, List.append_toArray, List.nil_append, List.cons_append]
  gi_wp2
  gi_loopw [4] (fun i wr => ∃ k : Nat, k ≤ chN m n ∧ i = .int .i64 ((k * m : Nat) : Int) ∧ J (List.range k) wr) (fun i _ => (chN m n) * m - (intOf i).toNat)
  case atStart => exact ⟨0, Nat.zero_le _, by simp, h0⟩
  case round =>
    obtain ⟨k, hk, rfl, hJs⟩ := hrel
    obtain ⟨c1, c2⟩ := HJ.out _ _ hJs
    by_cases hlt : k < chN m n
    · have hlt2 := (chN_lt (n := n) hm).1 hlt
      obtain ⟨fn, tmps, assign, body, hy, hR⟩ := HY.out _ k wr.drew (HD.out _ _ hJs) (by simpa using hlt) (by simp)
      have hs1 := fun W => run_slice_from (P := Tryz.prog) W 33 5 i0 1 Tryz.underlying33 hi0 hz1 A n c (k * m) _ rfl (by omega)
      have hmin := Lib.hid (show (if n - k * m < m then ((n - k * m : Nat) : Int) else (m : Int)) = ((min m (n - k * m) : Nat) : Int) by
        split <;> omega)
      have hminb := Lib.hid (show min (m : Int) ((n - k * m : Nat) : Int) = ((min m (n - k * m) : Nat) : Int) by omega)
      simp only [chV] at hy
      have hq1 : 1 ≤ min m (n - k * m) := by omega
      have hq2 : min m (n - k * m) ≤ n - k * m := Nat.min_le_right _ _
      have hq3 : min m (n - k * m) ≤ m := Nat.min_le_left _ _
      have hle : k * m + m ≤ chN m n * m := by
        have : (k + 1) * m ≤ chN m n * m := Nat.mul_le_mul_right _ hlt
        rw [Nat.succ_mul] at this
        exact this
      have hchN : chN m n * m ≤ n + m := by
        have h1 := Nat.div_mul_le_self (n + m - 1) m
        show (n + m - 1) / m * m ≤ n + m
        omega
      gi_wp2
      gi_region
      (try simp only [hmin.out])
      (try simp only [hminb.out])
      generalize hq : min m (n - k * m) = q at *
      clear hmin hminb hq hs1
      have hs3 := fun W => run_slice3 (P := Tryz.prog) W 33 5 i0 Tryz.underlying33 hi0 hz1 A n c (k * m) (k * m + q) ((k * m : Nat) : Int) (((k * m : Nat) : Int) + (q : Int)) rfl (by omega) (by omega) (by omega)
      rw [show k * m + q - k * m = q by omega] at hs3
      generalize hkm : k * m = km at *
      have c1' : wr.drew.cell? { block := bs, off := 0 } = some (Value.slice A n c) := c1
      have c2' : wr.drew.cell? { block := bm, off := 0 } = some (Value.int IntKind.i64 ↑m) := c2
      gi_wp2
      refine hR.mono ?_
      rintro e W3 ⟨rfl, hJ3⟩
      obtain ⟨d1, d2⟩ := HJ.out _ _ hJ3
      gi_wp2
      go_roundw
      case rel => exact ⟨k + 1, by omega, by rw [← hkm]; congr 1; rw [Nat.succ_mul]; omega, by rw [List.range_succ]; exact hJ3⟩
      case measure => simp [intOf]; omega
    · obtain rfl : k = chN m n := by omega
      have hge : n ≤ chN m n * m := by
        rcases Nat.lt_or_ge (chN m n * m) n with h | h
        · exact absurd ((chN_lt hm).2 h) (by omega)
        · exact h
      gi_wp2
      go_end0
      exact ⟨⟨_, rfl⟩, _, rfl, hJs⟩

set_option maxRecDepth 100000 in
set_option maxHeartbeats 1000000 in
theorem chunk_any (w : World) (A : Option Addr) (n c m : Nat) (hm : 1 ≤ m) (hM : m ≤ 1000000) :
    Calls Tryz.prog 76 #[.slice A n c, .int .i64 (m : Int)] w fun e w' => e = .returned (.func (.func 112) #[] #[.pointer (some ⟨w.heap.size, 0, none⟩), .pointer (some ⟨w.heap.size + 1, 0, none⟩)]) ∧ w' = (w.alloc (.cells #[.slice A n c] 33)).alloc (.cells #[.int .i64 (m : Int)] 3) := by
  go_enter Tryz.func76, Tryz.ntmps76
  go_wp2_with fail
  go_ret
  exact ⟨rfl, rfl⟩
/-- the rounds of slices.Chunk, as rangeH asks for them -/
theorem chunk_seq {w0 w : World} {R : List Nat → List It → Prop} {A : Option Addr} {n c m bs bm : Nat} (hm : 1 ≤ m) (hM : m ≤ 1000000) (hN : n ≤ 100000000000) (hnc : n ≤ c)
    (hcells : ∀ pre L, R pre L → ∀ W x y, Heap w0 (x :: y :: L) W → W.cell? ⟨bs, 0, none⟩ = some (.slice A n c) ∧ W.cell? ⟨bm, 0, none⟩ = some (.int .i64 (m : Int))) :
    ∀ (l : Nat) (J : List Nat → World → Prop) (W : World), Ext w W → (∀ pre W, J pre W → ∃ x y L, R pre L ∧ Heap w0 (x :: y :: L) W) → (∀ pre W, J pre W → J pre W.drew) → (false = true → AbidesFrom W.heap.size J) →
      (∀ pre x W1, J pre W1 → pre.length < chN m n → x = pre.length → YieldAt Fence.wide 0 Tryz.prog l #[chV A m n x] W1 fun e W' => e = .returned (.bool true) ∧ J (pre ++ [x]) W' ∧ (false = true → KeepW w0.heap.size W.heap.size W1 W')) → J [] W →
      Calls Tryz.prog 112 (#[.func (.yield l) #[] #[]] ++ #[.pointer (some ⟨bs, 0, none⟩), .pointer (some ⟨bm, 0, none⟩)]) W fun e W' => (∃ v, e = .returned v) ∧ ∃ xs, xs = List.range (chN m n) ∧ J xs W' :=
  fun l J W _ hJ hJd _ hY h0 => chunk1_any l bs bm A n c m hm hM hN hnc J (fun pre W h => by
    obtain ⟨x, y, L, hL, H⟩ := hJ pre W h
    exact hcells pre L hL W x y H) hJd (fun pre x W1 h1 h2 h3 => (hY pre x W1 h1 h2 h3).mono fun e W' h => ⟨h.1, h.2.1⟩) W h0
end Go.Proofs.YtfongpdeflfioaaGreat
/- scrub's note: a sector is good, or one of the bad. -/
namespace Go.Proofs.YtfongpdeflfioaaGreat
open Go.RowKit Go.Maps Go.Sort Go.Shelf
set_option linter.unusedVariables false
set_option linter.unusedSimpArgs false

/-- a looker's box -/
abbrev KB (kb : Nat) (s0 s1 s2 s3 s4 s5 s6 : Value) (g : Int) (bv : Value) (st fr : Int) : It := .box kb [s0, s1, s2, s3, s4, s5, s6, .int .i64 g, bv, .int .i64 st, .int .i64 fr]
set_option maxRecDepth 100000 in
set_option maxHeartbeats 4000000 in
theorem note_ok {w0 w : World} {its : List It} (H : Heap w0 its w) (kb : Nat) (s0 s1 s2 s3 s4 s5 s6 : Value) (g : Int) (bv : Value) (st fr at_ : Int) (i : Nat) (hi : its[i]? = some (KB kb s0 s1 s2 s3 s4 s5 s6 g bv st fr)) (h0 : 0 ≤ g) (h1 : g ≤ 1000000000) :
    Calls Tryz.prog 77 #[.pointer (some ⟨kb, 0, none⟩), .int .i64 at_, .bool true] w fun e w' => (∃ v, e = .returned v) ∧ Heap w0 (its.set i (KB kb s0 s1 s2 s3 s4 s5 s6 (g + 1) bv st fr)) w' := by
  have HH := Lib.hid H
  have HI := Lib.hid hi
  clear H hi
  go_enter Tryz.func77, Tryz.ntmps77
  go_wp2_with (first | (refine shl_load1 HH.out rfl rfl rfl (i) (HI.out) rfl (by decide +kernel) ?_) | (refine shl_store1 HH.out rfl rfl rfl rfl (i) (HI.out) rfl rfl (by kernel_rfl) ?_; clear HH; intro wS HHS; have HH := Lib.hid HHS; clear HHS))
  refine bodyPost_ret (results_none rfl _ _ _) rfl ?_
  exact ⟨⟨_, rfl⟩, HH.out⟩
set_option maxRecDepth 100000 in
set_option maxHeartbeats 4000000 in
theorem note_bad {w0 w : World} {its : List It} (H : Heap w0 its w) (kb : Nat) (s0 s1 s2 s3 s4 s5 s6 : Value) (g : Int) (bv : Value) (st fr at_ : Int) (nb : Nat) (bads : List Int) (i j : Nat) (hij : i ≠ j) (hi : its[i]? = some (KB kb s0 s1 s2 s3 s4 s5 s6 g bv st fr)) (hj : its[j]? = some (.row 3 1 bv nb (ints bads))) (hn : nb ≤ 100000000) :
    Calls Tryz.prog 77 #[.pointer (some ⟨kb, 0, none⟩), .int .i64 at_, .bool false] w fun e w' => (∃ v, e = .returned v) ∧ ∃ bv', Heap w0 ((its.set j (.row 3 1 bv' (nb + 1) (ints (bads ++ [at_])))).set i (KB kb s0 s1 s2 s3 s4 s5 s6 g bv' st fr)) w' := by
  obtain ⟨i0, hi0, hz0, hz1, hz2⟩ := info_parts infoI
  have HH := Lib.hid H
  have HI := Lib.hid hi
  have HJ := Lib.hid hj
  have HIJ := Lib.hid hij
  clear H hi hj hij
  go_enter Tryz.func77, Tryz.ntmps77
  go_upto_region 2 with fail
  (iterate 60 (first | (refine shl_load1 HH.out rfl rfl rfl (i) (HI.out) rfl (by decide +kernel) ?_) | at_builtin | go_step))
  generalize hwA : World.alloc w _ = w2
  have HH2 := Lib.hid (HH.out.allocE hwA)
  clear HH hwA
  have HH := HH2
  clear HH2
  refine shl_app (e := 3) (size := 1) (bytes := 8) (news := [.int .i64 at_]) (lo := w0.heap.size) (.tmp 21) (.tmp 23) _ rfl rfl Tryz.underlying29 hi0 hz0 hz1 hz2 rfl (by omega) HH.out (j + 1) (at1 HJ.out) rfl (m := 1) rfl rfl (HH.out.boxRd 0 rfl) (by simp [Value.oneCell']) (by simp only [maxLen]; omega) (by omega) ?_
  intro v7 w7 hh7 h7
  obtain ⟨A7, c7, rfl⟩ := h7
  have HH7 := Lib.hid (show Heap w0 (its.set j (.row 3 1 (.slice A7 (nb + 1) c7) (nb + 1) (ints (bads ++ [at_])))) w7 by rw [ints_append]; exact hh7.tail)
  clear HH hh7
  have HH := HH7
  clear HH7
  have HI2 := Lib.hid (show (its.set j (.row 3 1 (.slice A7 (nb + 1) c7) (nb + 1) (ints (bads ++ [at_]))))[i]? = some (KB kb s0 s1 s2 s3 s4 s5 s6 g bv st fr) from (List.getElem?_set_ne (Ne.symm HIJ.out)).trans HI.out)
  go_wp2_with (first | (refine shl_store1 HH.out rfl rfl rfl rfl (i) (HI2.out) rfl rfl (by kernel_rfl) ?_; clear HH; intro wS HHS; have HH := Lib.hid HHS; clear HHS))
  go_end0
  exact ⟨⟨_, rfl⟩, _, HH.out⟩
end Go.Proofs.YtfongpdeflfioaaGreat
