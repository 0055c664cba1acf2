/- The texts Cnk, Clone, New, Own, Cut in one file. -/
import Derived.Test.YtfongpdeflfioaaGreatS3
import Derived.Deep.DeepAppendWide
import Derived.Test.YtfongpdeflfioaaGreatS5
import Derived.Test.YtfongpdeflfioaaGreatS11
import Derived.Test.YtfongpdeflfioaaGreatS12
import Derived.Test.YtfongpdeflfioaaGreatS2
/- slices.Chunk over octets: its iterator's rounds are the parts, in order. -/
namespace Go.Proofs.YtfongpdeflfioaaGreat
open Go.RowKit Go.Shelf
set_option linter.unusedVariables false
set_option linter.unusedSimpArgs false
attribute [local go_sem] Oper.semAt_some
def chV (A : Option Addr) (m n k : Nat) : Value := .slice (A.map (·.add (k * m))) (min m (n - k * m)) (min m (n - k * m))
def chN (m n : Nat) : Nat := (n + m - 1) / m
theorem chN_lt {m n k : Nat} (hm : 1 ≤ m) : k < chN m n ↔ k * m < n := by
  unfold chN
  rw [Nat.lt_div_iff_mul_lt hm]
  omega
theorem run_slice3 {P : Program} (w : World) (t e : TypeId) (inf : TypeInfo) (ht : P.underlying t = some (.slice e)) (hi : P.info? e = some inf) (hs : inf.size = 1) (A : Option Addr) (n c i j : Nat) (I J : Int) (hI : I = (i : Int)) (hJ : J = (j : Int)) (hij : i < j) (hj : j ≤ c) :
    (Instr.slice t (.slice A n c) (some (.int .i64 I)) (some (.int .i64 J)) (some (.int .i64 J))).run P w = .ok (.slice (A.map (·.add i)) (j - i) (j - i)) w := by
  subst hI
  subst hJ
  have hb : (Instr.sliceBounds true n c (some (.int .i64 (i : Int))) (some (.int .i64 (j : Int))) (some (.int .i64 (j : Int)))).run P w = .ok (i, j, j) w := by
    simp [Instr.sliceBounds, run_sliceBound (P := P) w .i64 (j : Int) c .slice3Acap (by omega) (by omega), run_sliceBound (P := P) w .i64 (j : Int) j .slice3B (by omega) (by omega), run_sliceBound (P := P) w .i64 (i : Int) j .slice3C (by omega) (by omega)]
  have hne : ¬ j = i := by omega
  simp [Instr.slice, run_underlying ht, hb, sizeOf, typeInfo, hi, hs, hne]
set_option maxRecDepth 100000 in
set_option maxHeartbeats 4000000 in
theorem chunk1_any (l bs bm : Nat) (A : Option Addr) (n c m : Nat) (hm : 1 ≤ m) (hM : m ≤ 1000000) (hN : n ≤ 100000000000) (hnc : n ≤ c) (J : List Nat → World → Prop)
    (hJ : ∀ pre W, J pre W → W.cell? ⟨bs, 0, none⟩ = some (.slice A n c) ∧ W.cell? ⟨bm, 0, none⟩ = some (.int .i64 (m : Int)))
    (hJd : ∀ pre W, J pre W → J pre W.drew)
    (hY : ∀ pre x W1, J pre W1 → pre.length < chN m n → x = pre.length → YieldAt Fence.wide 0 Tryz.prog l #[chV A m n x] W1 fun e W' => e = .returned (.bool true) ∧ J (pre ++ [x]) W')
    (W : World) (h0 : J [] W) :
    Calls Tryz.prog 112 #[.func (.yield l) #[] #[], .pointer (some ⟨bs, 0, none⟩), .pointer (some ⟨bm, 0, none⟩)] W fun e W' => (∃ v, e = .returned v) ∧ ∃ xs, xs = List.range (chN m n) ∧ J xs W' := by
  obtain ⟨i0, hi0, hz0, hz1, hz2⟩ := info_parts info5
  have HY := Lib.hid hY
  have HJ := Lib.hid hJ
  have HD := Lib.hid hJd
  clear hY hJ hJd
  refine (callsIn_wide (n := 1)).1 (callsIn_of_wp Tryz.func112 rfl trivial ?_ rfl)
  simp only [Tryz.ntmps112, List.size_toArray, List.length_cons, List.length_nil, Nat.reduceAdd, Nat.reduceSub, Array.replicate_succ, Array.replicate_zero, List.push_toArray, List.append_toArray, List.nil_append, List.cons_append]
  gi_wp2
  gi_loopw [4] (fun i wr => ∃ k : Nat, k ≤ chN m n ∧ i = .int .i64 ((k * m : Nat) : Int) ∧ J (List.range k) wr) (fun i _ => (chN m n) * m - (intOf i).toNat)
  case atStart => exact ⟨0, Nat.zero_le _, by simp, h0⟩
  case round =>
    obtain ⟨k, hk, rfl, hJs⟩ := hrel
    obtain ⟨c1, c2⟩ := HJ.out _ _ hJs
    by_cases hlt : k < chN m n
    · have hlt2 := (chN_lt (n := n) hm).1 hlt
      obtain ⟨fn, tmps, assign, body, hy, hR⟩ := HY.out _ k wr.drew (HD.out _ _ hJs) (by simpa using hlt) (by simp)
      have hs1 := fun W => run_slice_from (P := Tryz.prog) W 33 5 i0 1 Tryz.underlying33 hi0 hz1 A n c (k * m) _ rfl (by omega)
      have hmin := Lib.hid (show (if n - k * m < m then ((n - k * m : Nat) : Int) else (m : Int)) = ((min m (n - k * m) : Nat) : Int) by
        split <;> omega)
      have hminb := Lib.hid (show min (m : Int) ((n - k * m : Nat) : Int) = ((min m (n - k * m) : Nat) : Int) by omega)
      simp only [chV] at hy
      have hq1 : 1 ≤ min m (n - k * m) := by omega
      have hq2 : min m (n - k * m) ≤ n - k * m := Nat.min_le_right _ _
      have hq3 : min m (n - k * m) ≤ m := Nat.min_le_left _ _
      have hle : k * m + m ≤ chN m n * m := by
        have : (k + 1) * m ≤ chN m n * m := Nat.mul_le_mul_right _ hlt
        rw [Nat.succ_mul] at this
        exact this
      have hchN : chN m n * m ≤ n + m := by
        have h1 := Nat.div_mul_le_self (n + m - 1) m
        show (n + m - 1) / m * m ≤ n + m
        omega
      gi_wp2
      gi_region
      (try simp only [hmin.out])
      (try simp only [hminb.out])
      generalize hq : min m (n - k * m) = q at *
      clear hmin hminb hq hs1
      have hs3 := fun W => run_slice3 (P := Tryz.prog) W 33 5 i0 Tryz.underlying33 hi0 hz1 A n c (k * m) (k * m + q) ((k * m : Nat) : Int) (((k * m : Nat) : Int) + (q : Int)) rfl (by omega) (by omega) (by omega)
      rw [show k * m + q - k * m = q by omega] at hs3
      generalize hkm : k * m = km at *
      have c1' : wr.drew.cell? { block := bs, off := 0 } = some (Value.slice A n c) := c1
      have c2' : wr.drew.cell? { block := bm, off := 0 } = some (Value.int IntKind.i64 ↑m) := c2
      gi_wp2
      refine hR.mono ?_
      rintro e W3 ⟨rfl, hJ3⟩
      obtain ⟨d1, d2⟩ := HJ.out _ _ hJ3
      gi_wp2
      go_roundw
      case rel => exact ⟨k + 1, by omega, by rw [← hkm]; congr 1; rw [Nat.succ_mul]; omega, by rw [List.range_succ]; exact hJ3⟩
      case measure => simp [intOf]; omega
    · obtain rfl : k = chN m n := by omega
      have hge : n ≤ chN m n * m := by
        rcases Nat.lt_or_ge (chN m n * m) n with h | h
        · exact absurd ((chN_lt hm).2 h) (by omega)
        · exact h
      gi_wp2
      go_end0
      exact ⟨⟨_, rfl⟩, _, rfl, hJs⟩
set_option maxRecDepth 100000 in
set_option maxHeartbeats 1000000 in
theorem chunk_any (w : World) (A : Option Addr) (n c m : Nat) (hm : 1 ≤ m) (hM : m ≤ 1000000) :
    Calls Tryz.prog 76 #[.slice A n c, .int .i64 (m : Int)] w fun e w' => e = .returned (.func (.func 112) #[] #[.pointer (some ⟨w.heap.size, 0, none⟩), .pointer (some ⟨w.heap.size + 1, 0, none⟩)]) ∧ w' = (w.alloc (.cells #[.slice A n c] 33)).alloc (.cells #[.int .i64 (m : Int)] 3) := by
  go_enter Tryz.func76, Tryz.ntmps76
  go_wp2_with fail
  go_ret
  exact ⟨rfl, rfl⟩
theorem chunk_seq {w0 w : World} {R : List Nat → List It → Prop} {A : Option Addr} {n c m bs bm : Nat} (hm : 1 ≤ m) (hM : m ≤ 1000000) (hN : n ≤ 100000000000) (hnc : n ≤ c)
    (hcells : ∀ pre L, R pre L → ∀ W x y, Heap w0 (x :: y :: L) W → W.cell? ⟨bs, 0, none⟩ = some (.slice A n c) ∧ W.cell? ⟨bm, 0, none⟩ = some (.int .i64 (m : Int))) :
    ∀ (l : Nat) (J : List Nat → World → Prop) (W : World), Ext w W → (∀ pre W, J pre W → ∃ x y L, R pre L ∧ Heap w0 (x :: y :: L) W) → (∀ pre W, J pre W → J pre W.drew) → (false = true → AbidesFrom W.heap.size J) →
      (∀ pre x W1, J pre W1 → pre.length < chN m n → x = pre.length → YieldAt Fence.wide 0 Tryz.prog l #[chV A m n x] W1 fun e W' => e = .returned (.bool true) ∧ J (pre ++ [x]) W' ∧ (false = true → KeepW w0.heap.size W.heap.size W1 W')) → J [] W →
      Calls Tryz.prog 112 (#[.func (.yield l) #[] #[]] ++ #[.pointer (some ⟨bs, 0, none⟩), .pointer (some ⟨bm, 0, none⟩)]) W fun e W' => (∃ v, e = .returned v) ∧ ∃ xs, xs = List.range (chN m n) ∧ J xs W' :=
  fun l J W _ hJ hJd _ hY h0 => chunk1_any l bs bm A n c m hm hM hN hnc J (fun pre W h => by
    obtain ⟨x, y, L, hL, H⟩ := hJ pre W h
    exact hcells pre L hL W x y H) hJd (fun pre x W1 h1 h2 h3 => (hY pre x W1 h1 h2 h3).mono fun e W' h => ⟨h.1, h.2.1⟩) W h0
end Go.Proofs.YtfongpdeflfioaaGreat
/- slices.Clone over octets. -/
namespace Go.Proofs.YtfongpdeflfioaaGreat
open Go.RowKit
structure Oct.Own (w : World) (lo : Nat) (s : Oct) : Prop where
  at_ : Oct.At w lo w.heap.size s
  wr : Wr w lo w.heap.size s.A (bytes s.xs)
theorem oct_own {w : World} {base n : Nat} {v : Value} {l : List UInt8} (h : w.ownsRow base 5 1 v n (bytes l)) (hn : n = l.length) : ∃ s : Oct, v = s.val ∧ s.xs = l ∧ Oct.Own w base s := by
  obtain ⟨A, c, rfl, h1, h2, _⟩ := own_form h
  exact ⟨⟨A, n, c, l⟩, rfl, rfl, ⟨⟨hn, h1, h2, by rw [octs_flat]; exact Rd.of_own h, fun _ _ => trivial⟩, Wr.of_own h⟩⟩
theorem clone_any (s : Oct) (w : World) (h : Oct.At w 0 w.heap.size s) (hb : s.n ≤ 150000000000000) :
    Calls Tryz.prog 56 #[s.val] w fun e w' => ∃ s' : Oct, e = .returned s'.val ∧ s'.xs = s.xs ∧ Oct.Own w' w.heap.size s' ∧ Ext w w' :=
  (cloneb_any w w.heap.size (Nat.le_refl _) s.A s.n s.c s.xs h.len (Oct.At.rdb h) hb).mono fun e w' ⟨v, he, ho, hx⟩ => by
    obtain ⟨s', rfl, h2, h3⟩ := oct_own ho h.len
    exact ⟨s', he, h2, h3, hx⟩
section
variable {w w' : World} {lo hi : Nat} {A : Option Addr} {cs : List Value}
theorem Wr.ext (h : Wr w lo hi A cs) (e : Ext w w') (hh : hi ≤ w.heap.size) : Wr w' lo w'.heap.size A cs := fun hn => by
  obtain ⟨b, o, h1, h2, h3, h4⟩ := h hn
  have hb : b < w.heap.size := Nat.lt_of_lt_of_le h3 hh
  exact ⟨b, o, h1, h2, Nat.lt_of_lt_of_le hb e.size, fun j u hu => ⟨(Below.cell (p := ⟨b, o + j, none⟩) e hb).trans (h4 j u hu).1, (Below.frozen (p := ⟨b, o + j, none⟩) e hb).trans (h4 j u hu).2⟩⟩
theorem Wr.new (w : World) (cs : Array Value) (t : TypeId) : Wr (w.alloc (.cells cs t)) w.heap.size (w.heap.size + 1) (some ⟨w.heap.size, 0, none⟩) cs.toList := fun _ =>
  ⟨_, _, rfl, Nat.le_refl _, Nat.lt_succ_self _, fun j u hu => ⟨by rw [Nat.zero_add]; exact cell_new w cs t j (by simpa using hu), by
    have := heap_alloc_new w (.cells cs t)
    unfold World.frozen?
    rw [this]
    simp⟩⟩
theorem Wr.more {lo' hi' : Nat} (h : Wr w lo hi A cs) (hl : lo' ≤ lo) (hh : hi ≤ hi') : Wr w lo' hi' A cs := fun hn => by
  obtain ⟨b, o, h1, h2, h3, h4⟩ := h hn
  exact ⟨b, o, h1, by omega, by omega, h4⟩
theorem Wr.set {b o : Nat} (h : Wr w lo hi (some ⟨b, o, none⟩) cs) {k : Nat} (hk : k < cs.length) (v : Value) : Wr (w.setCell ⟨b, o + k, none⟩ v) lo hi (some ⟨b, o, none⟩) (cs.set k v) := fun _ => by
  obtain ⟨b', o', he, h2, h3, h4⟩ := h (fun e => by simp [e] at hk)
  obtain ⟨rfl, rfl⟩ : b = b' ∧ o = o' := by simpa using he
  refine ⟨b, o, rfl, h2, h3, fun j u hu => ⟨?_, ?_⟩⟩
  · by_cases hj : k = j
    · subst hj
      rw [List.getElem?_set_self hk] at hu
      cases hu
      exact World.cell?_setCell_same w _ _ (h4 k _ (List.getElem?_eq_getElem hk)).1
    · rw [List.getElem?_set_ne hj] at hu
      exact (World.cell?_setCell_other w _ _ _ (fun e => by injection e with _ e2; omega)).trans (h4 j u hu).1
  · rw [World.frozen?_setCell]
    have hjl : j < cs.length := by
      have := (List.getElem?_eq_some_iff.1 hu).1
      simpa using this
    exact (h4 j _ (List.getElem?_eq_getElem hjl)).2
theorem Wr.else_ {b o : Nat} (h : Wr w lo hi (some ⟨b, o, none⟩) cs) {p : Addr} (hp : p.block ≠ b) (v : Value) : Wr (w.setCell p v) lo hi (some ⟨b, o, none⟩) cs := fun hn => by
  obtain ⟨b', o', he, h2, h3, h4⟩ := h hn
  obtain ⟨rfl, rfl⟩ : b = b' ∧ o = o' := by simpa using he
  exact ⟨b, o, rfl, h2, h3, fun j u hu => ⟨(World.cell?_setCell_other w p _ v (fun e => hp (by rw [e]))).trans (h4 j u hu).1, by rw [World.frozen?_setCell]; exact (h4 j u hu).2⟩⟩
theorem Wr.drew (h : Wr w lo hi A cs) : Wr w.drew lo hi A cs := h
theorem Wr.cell {b o : Nat} (h : Wr w lo hi (some ⟨b, o, none⟩) cs) {k : Nat} {u : Value} (hk : cs[k]? = some u) : w.cell? ⟨b, o + k, none⟩ = some u ∧ w.frozen? ⟨b, o + k, none⟩ = false := by
  obtain ⟨b', o', he, h2, h3, h4⟩ := h (fun e => by simp [e] at hk)
  obtain ⟨rfl, rfl⟩ : b = b' ∧ o = o' := by simpa using he
  exact h4 k u hk
end
def nilv : Value := .slice none 0 0
def zeros (n : Nat) : List UInt8 := List.replicate n 0
theorem zeros_eqC (m : Nat) : madeCells (Value.int .u8 0).cells m = (bytes (List.replicate m 0)).toArray := by
  apply Array.toList_inj.1
  show (madeCells #[Value.int .u8 0] m).toList = _
  rw [toList_madeCells_one]
  simp [bytes]
theorem mk_bytesC (m : Nat) (hm : m ≤ 140737488355328) (u : World) : (Instr.makeSlice 33 (.int .i64 (m : Int)) (.int .i64 (m : Int))).run Tryz.prog u = .ok (.slice (some ⟨u.heap.size, 0, none⟩) m m) (u.alloc (.cells (bytes (zeros m)).toArray 5)) := by
  obtain ⟨i0, hi0, hz0, hz1, hz2⟩ := info_parts info5
  have h := run_make (P := Tryz.prog) u 33 5 i0 _ Tryz.underlying33 hi0 hz0 .i64 .i64 m m (by omega) (by omega) (by rw [hz2]; omega) (by omega)
  rw [hz1, Int.toNat_natCast, Nat.mul_one, zeros_eqC] at h
  exact h
theorem infoS : (Tryz.prog.info? 33).map (fun i => (i.zero, i.size, i.bytes)) = some (some (.slice none 0 0), 1, 24) := by kernel_rfl
theorem mk_rows (m : Nat) (hm : m ≤ 1000000000) (u : World) : (Instr.makeSlice 22 (.int .i64 (m : Int)) (.int .i64 (m : Int))).run Tryz.prog u = .ok (.slice (some ⟨u.heap.size, 0, none⟩) m m) (u.alloc (.cells (List.replicate m nilv).toArray 33)) := by
  obtain ⟨i0, hi0, hz0, hz1, hz2⟩ := info_parts infoS
  have h := run_make (P := Tryz.prog) u 22 33 i0 _ Tryz.underlying22 hi0 hz0 .i64 .i64 m m (by omega) (by omega) (by rw [hz2]; omega) (by omega)
  rw [hz1, Int.toNat_natCast, Nat.mul_one, show madeCells (Value.slice none 0 0).cells m = (List.replicate m nilv).toArray by
    apply Array.toList_inj.1
    show (madeCells #[Value.slice none 0 0] m).toList = _
    rw [toList_madeCells_one]
    rfl] at h
  exact h
end Go.Proofs.YtfongpdeflfioaaGreat
/- device.New. -/
namespace Go.Proofs.YtfongpdeflfioaaGreat
open Go.RowKit
set_option linter.unusedSimpArgs false
theorem new_no (w : World) (n : Int) (h : n < 2 ∨ 8192 < n) :
    Calls Tryz.prog 94 #[.int .i64 n] w fun e w' => e = .returned (.tuple #[.agg #[.slice none 0 0, .slice none 0 0], .int .i64 4]) ∧ Ext w w' := by
  have hcase : n < 2 ∨ (2 ≤ n ∧ 8192 < n) := by omega
  clear h
  rcases hcase with q0 | ⟨q0, q1⟩
  all_goals
    go_enter Tryz.func94, Tryz.ntmps94
    go_wp2_with fail
    refine bodyPost_ret (v := .tuple #[.agg #[.slice none 0 0, .slice none 0 0], .int .i64 4]) (by simp [results, Tryz.results94, go_sem]) rfl ⟨rfl, by exact blo⟩
theorem set_mid {α : Type} (l : List α) (x v : α) (r : List α) : (l ++ x :: r).set l.length v = l ++ v :: r := by
  rw [List.set_append_right _ _ (Nat.le_refl _), Nat.sub_self]
  rfl
set_option maxHeartbeats 1000000 in
theorem new_yes (w : World) (n : Nat) (h0 : 2 ≤ n) (h1 : n ≤ 8192) :
    Calls Tryz.prog 94 #[.int .i64 n] w fun e w' => (∃ d : Dev, e = .returned (.tuple #[.agg d.cells.toArray, .int .i64 0]) ∧ d.secs.xs.map (·.xs) = List.replicate n (zeros 64) ∧ d.waits = ⟨none, 0, 0, []⟩ ∧ Dev.At w' w.heap.size w'.heap.size d) ∧ Ext w w' := by
  have p0 : (2 : Int) ≤ n := by omega
  have p1 : (n : Int) ≤ 8192 := by omega
  have k1 := mk_rows n (by omega)
  have k2 : ∀ u, (Instr.makeSlice 33 (.int .i64 64) (.int .i64 64)).run Tryz.prog u = .ok (.slice (some ⟨u.heap.size, 0, none⟩) 64 64) (u.alloc (.cells (bytes (zeros 64)).toArray 5)) := fun u => mk_bytesC 64 (by omega) u
  go_enter Tryz.func94, Tryz.ntmps94
  go_wp2_with fail
  go_loopw [19] (fun i wr => ∃ (k : Nat) (ss : List Oct), k ≤ n ∧ i = .int .i64 k ∧ Hid (ss.length = k) ∧ Hid (∀ s ∈ ss, s.xs = zeros 64) ∧ Hid (Wr wr 0 wr.heap.size (some ⟨w.heap.size + 1, 0, none⟩) (ss.map Sl.val ++ List.replicate (n - k) nilv)) ∧
      Hid (∀ s ∈ ss, Oct.At wr (w.heap.size + 3) wr.heap.size s) ∧ wr.cell? ⟨w.heap.size + 2, 0, none⟩ = some (.slice (some ⟨w.heap.size + 1, 0, none⟩) n n) ∧ wr.cell? ⟨w.heap.size + 2, 1, none⟩ = some (.slice none 0 0) ∧
      wr.cell? ⟨w.heap.size, 0, none⟩ = some (.slice none 0 0) ∧ wr.cell? ⟨w.heap.size, 1, none⟩ = some (.slice none 0 0) ∧ wr.frozen? ⟨w.heap.size, 0, none⟩ = false ∧ wr.frozen? ⟨w.heap.size, 1, none⟩ = false ∧ Ext w wr ∧ w.heap.size + 2 < wr.heap.size) (fun i _ => n - (intOf i).toNat)
  case atStart =>
    refine ⟨0, [], Nat.zero_le _, rfl, Lib.hid rfl, Lib.hid (by simp), Lib.hid ?_, Lib.hid (by simp), by go_simp, by go_simp, by go_simp, by go_simp, by go_simp, by go_simp, by exact blo, by simp⟩
    have := Wr.new (w.alloc (.cells #[.slice none 0 0, .slice none 0 0] 25)) (List.replicate n nilv).toArray 33
    have := (this.ext ((Ext.refl _).alloc (.cells #[.slice (some ⟨w.heap.size + 1, 0, none⟩) n n, .slice none 0 0] 25)) (by simp)).more (Nat.zero_le 0 |> fun _ => Nat.zero_le _) (Nat.le_refl _)
    simpa using this
  case round =>
    obtain ⟨k, ss, hk, rfl, HL, HZ, HW, HA, c0, c1, c2, c3, f2, f3, e1, z1⟩ := hrel
    by_cases hlt : k < n
    · obtain ⟨g0, gf⟩ := HW.out.cell (k := k) (u := nilv) (by rw [List.getElem?_append_right (by simp [HL.out]), List.length_map, HL.out, Nat.sub_self, List.getElem?_replicate, if_pos (by omega)])
      rw [Nat.zero_add] at g0 gf
      have q0 : (0 : Int) ≤ k := by omega
      have q1 : (k : Int) < n := by omega
      have z0 : w.heap.size + 1 < wr.heap.size := by omega
      have z2 : w.heap.size < wr.heap.size := by omega
      go_wp2_with fail
      go_region
      go_wp2_with fail
      go_roundw
      case rel =>
        refine ⟨k + 1, ss ++ [⟨some ⟨wr.heap.size, 0, none⟩, 64, 64, zeros 64⟩], by omega, by go_num, Lib.hid (by rw [List.length_append, HL.out]; rfl), Lib.hid ?_, Lib.hid ?_, Lib.hid ?_, by go_simp, by go_simp, by go_simp, by go_simp, by go_simp, by go_simp, by exact blo, by simp; omega⟩
        · intro s hs
          rcases List.mem_append.1 hs with h | h
          · exact HZ.out s h
          · simp only [List.mem_singleton] at h; subst h; rfl
        · have h1 := HW.out.set (k := k) (by rw [List.length_append, List.length_map, HL.out, List.length_replicate]; omega) (.slice (some ⟨wr.heap.size, 0, none⟩) 64 64)
          rw [Nat.zero_add, show n - k = (n - (k + 1)) + 1 by omega, List.replicate_succ, ← HL.out, ← List.length_map (f := Sl.val), set_mid] at h1
          have h2 := (h1.ext (((Ext.refl _).alloc (.cells (bytes (zeros 64)).toArray 5)).drew) (by simp))
          rw [List.length_map, HL.out] at h2
          simpa [Sl.val, List.map_append] using h2
        · intro s hs
          rcases List.mem_append.1 hs with h | h
          · refine Oct.At.imp (HA.out s h) fun A cs hr => ?_
            exact rd_on (((Ext.refl _).alloc (.cells (bytes (zeros 64)).toArray 5)).drew) (by simp) A cs (hr.setCell_low (by show w.heap.size + 1 < w.heap.size + 3; omega) _)
          · simp only [List.mem_singleton] at h
            subst h
            refine ⟨by simp [zeros], Nat.le_refl _, by simp [maxLen], ?_, fun _ _ => trivial⟩
            have h3 := rd_new (wr.setCell ⟨w.heap.size + 1, k, none⟩ (.slice (some ⟨wr.heap.size, 0, none⟩) 64 64)) (bytes (zeros 64)).toArray 5
            rw [octs_flat]
            simpa using (h3.more (lo' := w.heap.size + 3) (by simp; omega) (Nat.le_refl _)).drew
      case measure => simp [intOf]; omega
    · obtain rfl : k = n := by omega
      have hA := Lib.hid (show Dev.At wr (w.heap.size + 1) wr.heap.size ⟨⟨some ⟨w.heap.size + 1, 0, none⟩, k, k, ss⟩, ⟨none, 0, 0, []⟩⟩ from
        ⟨⟨HL.out.symm, Nat.le_refl _, by simp [maxLen]; omega, by
          have h1 := HW.out.rd
          rw [Nat.sub_self, List.replicate_zero, List.append_nil] at h1
          have h2 : ss.flatMap octv = ss.map Sl.val := by
            clear h1 HL HZ HW HA
            induction ss with
            | nil => rfl
            | cons s ss ih => rw [List.flatMap_cons, ih]; rfl
          show Rd wr (w.heap.size + 1) wr.heap.size (some ⟨w.heap.size + 1, 0, none⟩) (ss.flatMap octv)
          rw [h2]
          intro hne
          obtain ⟨b, o, e, _, l2, l3⟩ := h1 hne
          obtain ⟨rfl, rfl⟩ : w.heap.size + 1 = b ∧ 0 = o := by simpa using e
          exact ⟨_, _, rfl, by omega, l2, l3⟩, fun s hs => Oct.At.low (HA.out s hs) (by omega)⟩, ⟨rfl, Nat.le_refl _, Nat.zero_le _, Rd.nil, fun _ h => by simp at h⟩⟩)
      have hM := Lib.hid (show ss.map (·.xs) = List.replicate k (zeros 64) from List.eq_replicate_iff.2 ⟨by rw [List.length_map, HL.out], fun b hb => by
        obtain ⟨s, hs, rfl⟩ := List.mem_map.1 hb
        exact HZ.out s hs⟩)
      have z0 : w.heap.size + 1 < wr.heap.size := by omega
      have z2 : w.heap.size < wr.heap.size := by omega
      go_wp2_with fail
      refine bodyPost_ret (v := .tuple #[.agg #[.slice (some ⟨w.heap.size + 1, 0, none⟩) k k, .slice none 0 0], .int .i64 0]) (by simp [results, Tryz.results94, go_sem, *]) rfl ⟨⟨⟨⟨some ⟨w.heap.size + 1, 0, none⟩, k, k, ss⟩, ⟨none, 0, 0, []⟩⟩, rfl, hM.out, rfl, ?_⟩, by exact blo⟩
      refine hA.out.imp fun A cs h => ?_
      simpa using ((h.setCell_low (p := ⟨w.heap.size, 0, none⟩) (by show w.heap.size < w.heap.size + 1; omega) (.slice (some ⟨w.heap.size + 1, 0, none⟩) k k)).setCell_low (p := ⟨w.heap.size, 1, none⟩) (by show w.heap.size < w.heap.size + 1; omega) (.slice none 0 0)).more (Nat.le_succ _) (Nat.le_refl _)
end Go.Proofs.YtfongpdeflfioaaGreat
/- A device of the call's own: its row of sectors may be written, its row of writes appended to. -/
namespace Go.Proofs.YtfongpdeflfioaaGreat
open Go.RowKit
def Ap (v : Value) (s : Oct) : Prop := s.xs ≠ [] → ∀ b o, s.A = some ⟨b, o, none⟩ → v.ownBlock ≠ some b
structure Dev.OwnAt (w : World) (lo g : Nat) (d : Dev) : Prop where
  lo_g : lo ≤ g
  g_lt : g < w.heap.size
  secA : d.secs.A = some ⟨g, 0, none⟩
  secn : d.secs.n = d.secs.xs.length
  secc : d.secs.n ≤ d.secs.c
  secm : d.secs.c ≤ maxLen
  row : Wr w g w.heap.size (some ⟨g, 0, none⟩) (d.secs.xs.map Sl.val)
  secs : ∀ s ∈ d.secs.xs, Oct.At w (g + 1) w.heap.size s ∧ Ap d.waits.val s
  wn : d.waits.n = d.waits.xs.length
  own : w.ownsRow (g + 1) 114 2 d.waits.val d.waits.n (d.waits.xs.flatMap Wrt.cells)
  waits : ∀ x ∈ d.waits.xs, Wrt.At w (g + 1) w.heap.size x ∧ Ap d.waits.val x.data
theorem vals_flat (ss : List Oct) : ss.flatMap octv = ss.map Sl.val := by
  induction ss with
  | nil => rfl
  | cons s ss ih => rw [List.flatMap_cons, ih]; rfl
section
variable {w w' : World} {lo g : Nat} {d : Dev}
theorem Dev.OwnAt.ext (h : Dev.OwnAt w lo g d) (e : Ext w w') : Dev.OwnAt w' lo g d :=
  ⟨h.lo_g, Nat.lt_of_lt_of_le h.g_lt e.size, h.secA, h.secn, h.secc, h.secm, h.row.ext e (Nat.le_refl _), fun s hs => ⟨Oct.At.on (h.secs s hs).1 e (Nat.le_refl _), (h.secs s hs).2⟩, h.wn, own_ext h.own e,
    fun x hx => ⟨Wrt.At.imp (h.waits x hx).1 (rd_on e (Nat.le_refl _)), (h.waits x hx).2⟩⟩
theorem own_le {v : Value} {base n : Nat} {e : TypeId} {size : Nat} {cs : List Value} {A : Option Addr} {m c : Nat} (h : w.ownsRow base e size v n cs) (hv : v = .slice A m c) : n = m ∧ m ≤ c ∧ c ≤ maxLen := by
  obtain ⟨A', c', rfl, h1, h2, _⟩ := own_form h
  injection hv with a b c
  subst a b c
  exact ⟨rfl, h1, h2⟩
theorem Dev.OwnAt.at_ (h : Dev.OwnAt w lo g d) : Dev.At w lo w.heap.size d := by
  obtain ⟨h1, h2, h3⟩ := own_le h.own rfl
  refine ⟨⟨h.secn, h.secc, h.secm, ?_, fun s hs => Oct.At.low (h.secs s hs).1 (by have := h.lo_g; omega)⟩, ⟨h.wn, h2, h3, ?_, fun x hx => Wrt.At.imp (h.waits x hx).1 fun _ _ hr => hr.more (by have := h.lo_g; omega) (Nat.le_refl _)⟩⟩
  · rw [vals_flat, h.secA]
    exact (h.row.more h.lo_g (Nat.le_refl _)).rd
  · exact (Rd.of_own h.own).more (by have := h.lo_g; omega) (Nat.le_refl _)
theorem Rd.grown_ne {w w' : World} {lo hi : Nat} {A : Option Addr} {cs : List Value} (h : Rd w lo hi A cs) {v : Value} (hg : w.grownBy w' v.ownBlock) (hB : hi ≤ w.heap.size) (hr : cs ≠ [] → ∀ b o, A = some ⟨b, o, none⟩ → v.ownBlock ≠ some b) : Rd w' lo hi A cs := fun hn => by
  obtain ⟨b, o, e, h1, h2, h3⟩ := h hn
  exact ⟨b, o, e, h1, h2, fun j u hu => (World.cell?_of_block (hg.block b (by omega) (fun e' => hr hn b o e e'.symm))).trans (h3 j u hu)⟩
theorem Wr.grown_ne {w w' : World} {lo hi : Nat} {A : Option Addr} {cs : List Value} (h : Wr w lo hi A cs) {v : Value} (hg : w.grownBy w' v.ownBlock) (hB : hi ≤ w.heap.size) (hr : cs ≠ [] → ∀ b o, A = some ⟨b, o, none⟩ → v.ownBlock ≠ some b) : Wr w' lo hi A cs := fun hn => by
  obtain ⟨b, o, e, h1, h2, h3⟩ := h hn
  have hb := hg.block b (by omega) (fun e' => hr hn b o e e'.symm)
  exact ⟨b, o, e, h1, h2, fun j u hu => ⟨(World.cell?_of_block hb).trans (h3 j u hu).1, (World.frozen?_of_block hb).trans (h3 j u hu).2⟩⟩
theorem octs_ne {s : Oct} (h : s.xs.flatMap octc ≠ []) : s.xs ≠ [] := fun e => h (by rw [e]; rfl)
theorem Oct.At.grown {w w' : World} {lo : Nat} {s : Oct} (h : Oct.At w lo w.heap.size s) {v : Value} (hg : w.grownBy w' v.ownBlock) (hr : Ap v s) : Oct.At w' lo w'.heap.size s :=
  ⟨h.len, h.le, h.cap, (h.rd.grown_ne hg (Nat.le_refl _) fun hn => hr (octs_ne hn)).more (Nat.le_refl _) hg.size, h.all⟩
theorem Oct.At.set_low {w : World} {lo hi : Nat} {s : Oct} (h : Oct.At w lo hi s) {p : Addr} (hp : p.block < lo) (u : Value) : Oct.At (w.setCell p u) lo hi s := Oct.At.imp h fun _ _ hr => hr.setCell_low hp u
theorem Ap.of_lt {w : World} {lo hi : Nat} {s : Oct} (h : Oct.At w lo hi s) {v : Value} (hv : ∀ b, v.ownBlock = some b → hi ≤ b ∨ b < lo) : Ap v s := fun hn b o hA hb => by
  obtain ⟨b', o', e, h1, h2, _⟩ := h.rd (fun e => hn (by
    have := congrArg List.length e
    rw [flat_length (size := 1) (fun _ => rfl)] at this
    exact List.eq_nil_of_length_eq_zero (by simpa using this)))
  rw [hA] at e
  obtain ⟨rfl, _⟩ : b = b' ∧ o = o' := by simpa using e
  rcases hv b hb with h' | h' <;> omega
theorem own_set {w : World} {base n : Nat} {v : Value} {e : TypeId} {size : Nat} {cs : List Value} (h : w.ownsRow base e size v n cs) {p : Addr} (hp : p.block < base) (u : Value) : (w.setCell p u).ownsRow base e size v n cs := by
  refine ⟨h.1, ?_⟩
  rcases h.2 with h' | ⟨g, cap, cur, h1, h2, h3, h4⟩
  · exact .inl h'
  · exact .inr ⟨g, cap, cur, h1, h2, (Below.heap_setCell _ _ _ _ (by omega)).trans h3, h4⟩
theorem Dev.OwnAt.set_low {w : World} {lo g : Nat} {d : Dev} (h : Dev.OwnAt w lo g d) {p : Addr} (hp : p.block < g) (u : Value) : Dev.OwnAt (w.setCell p u) lo g d := by
  have hs : (w.setCell p u).heap.size = w.heap.size := by simp
  refine ⟨h.lo_g, by rw [hs]; exact h.g_lt, h.secA, h.secn, h.secc, h.secm, by rw [hs]; exact h.row.else_ (by omega) u, fun s hx => ⟨by rw [hs]; exact Oct.At.set_low (h.secs s hx).1 (by omega) u, (h.secs s hx).2⟩, h.wn, own_set h.own (by omega) u,
    fun x hx => ⟨⟨(h.waits x hx).1.p0, (h.waits x hx).1.p1, by rw [hs]; exact Oct.At.set_low (h.waits x hx).1.data (by omega) u⟩, (h.waits x hx).2⟩⟩
end
end Go.Proofs.YtfongpdeflfioaaGreat
/- pages.Cut. -/
namespace Go.Proofs.YtfongpdeflfioaaGreat
open Go.RowKit Go.Maps Go.Sort Go.Shelf
set_option linter.unusedVariables false
set_option linter.unusedSimpArgs false
attribute [local go_sem] Oper.semAt_some
def cutB (b : List UInt8) : List (List UInt8) := (List.range (cntP b.length)).map fun k => pgB (partO b k) 0
structure InBag (L : RdL) (o : Oct) : Prop where
  len : o.n = o.xs.length
  le : o.n ≤ o.c
  cap : o.c ≤ maxLen
  mem : (o.A, bytes o.xs) ∈ L
theorem InBag.more {L : RdL} {o : Oct} (h : InBag L o) (L2 : RdL) : InBag (L2 ++ L) o := ⟨h.len, h.le, h.cap, List.mem_append_right _ h.mem⟩
theorem InBag.at_ {w0 w : World} {its : List It} {j : Nat} {S : Nat → Prop} {L : RdL} {o : Oct} (h : InBag L o) (H : Heap w0 its w) (hj : its[j]? = some (It.bag S L)) : Oct.At w w0.heap.size w.heap.size o :=
  ⟨h.len, h.le, h.cap, by rw [octs_flat]; exact H.bagRd hj h.mem, fun _ _ => trivial⟩
theorem infoSl : (Tryz.prog.info? 33).map (fun i => (i.zero, i.size, i.bytes)) = some (some (.slice none 0 0), 1, 24) := by kernel_rfl
theorem chN_le (n : Nat) : chN 52 n ≤ n := by unfold chN; omega
theorem partO_len (b : List UInt8) (k : Nat) : (partO b k).length ≤ 52 := by rw [partO, List.length_take]; omega
theorem pgenc_ok (w : World) (A : Option Addr) (n c : Nat) (b : List UInt8) (next : Int) (hn : n = b.length) (hr : Rd w 0 w.heap.size A (bytes b)) (hb : b.length ≤ 52) (h1 : 0 ≤ next) (h2 : next < 8192) :
    Calls Tryz.prog 80 #[.slice A n c, .int .i64 next] w fun e w' => ∃ A c, e = .returned (.tuple #[.slice A 64 c, .int .i64 0]) ∧ w'.ownsRow w.heap.size 5 1 (.slice A 64 c) 64 (bytes (pgB b next)) ∧ Ext w w' := by
  have h0 : pgE b next = 0 := by unfold pgE; rw [if_neg (by omega), if_neg (by omega)]
  refine (pgenc_any w A n c b next hn hr (by omega) (by omega) (by omega)).mono ?_
  rintro e w' ⟨v, m, rfl, ho, ee⟩
  rw [h0, if_pos rfl] at ho
  have hn : m = 64 := by have := ho.1; rw [bytes_length, pgB_len _ _ hb, Nat.mul_one] at this; exact this.symm
  subst hn
  obtain ⟨A, c, rfl, _, _, _⟩ := own_form ho
  exact ⟨A, c, by rw [h0], ho, ee⟩
set_option maxRecDepth 100000 in
set_option maxHeartbeats 8000000 in
theorem pcut_any (w : World) (A : Option Addr) (n c : Nat) (b : List UInt8) (hn : n = b.length) (hr : Rd w 0 w.heap.size A (bytes b)) (hc : n ≤ c) (hN : n ≤ 100000000) :
    Calls Tryz.prog 96 #[.slice A n c] w fun e w' => ∃ s : Sl Oct, e = .returned s.val ∧ s.xs.map (·.xs) = cutB b ∧ Sl.At w' w.heap.size w'.heap.size octv (Oct.At w' w.heap.size w'.heap.size) s ∧ Ext w w' := by
  obtain ⟨i0, hi0, hz0, hz1, hz2⟩ := info_parts infoSl
  have Hn := Lib.hid hn
  have HR := Lib.hid hr
  have HCB := Lib.hid (show cutB b = (List.range (chN 52 n)).map fun k => pgB (partO b k) 0 by rw [hn]; rfl)
  clear hn hr
  refine (callsIn_wide (n := 1)).1 (callsIn_of_wp_marks Tryz.func96 rfl trivial ?_ rfl)
  simp only [Tryz.ntmps96, List.size_toArray, List.length_cons, List.length_nil, Nat.reduceAdd, Nat.reduceSub, Array.replicate_succ, Array.replicate_zero, List.push_toArray, List.append_toArray, List.nil_append, List.cons_append]
  refine wpIn_wide.2 ?_
  go_upto_region 2 with fail
  generalize hwH : World.alloc w _ = w1
  have HH := Lib.hid ((((Heap.start w).bag0.row0 (e := 33) (size := 1))).allocE hwH)
  clear hwH
  obtain ⟨tb, htb⟩ : ∃ b, b = w.heap.size := ⟨_, rfl⟩
  rw [← htb] at HH ⊢
  clear htb
  go_wp2_with fail
  refine (chunk_any _ A n c 52 (by decide) (by decide)).mono ?_
  rintro e w2 ⟨rfl, rfl⟩
  generalize hwH : World.alloc (World.alloc w1 _) _ = w2
  have HH2 := Lib.hid ((HH.out.alloc _ _).allocE hwH)
  clear HH hwH
  have HH := HH2
  clear HH2
  simp only [World.size_alloc] at HH
  obtain ⟨bs, hbs⟩ : ∃ b, b = w1.heap.size := ⟨_, rfl⟩
  obtain ⟨bm, hbm⟩ : ∃ b, b = w1.heap.size + 1 := ⟨_, rfl⟩
  rw [← hbm, ← hbs] at HH ⊢
  clear hbs hbm
  go_wp2_with fail
  refine rangeH (P := Tryz.prog) (α := Nat) (N := chN 52 n) (w0 := w) (gf := 112) (lb := #[.pointer (some ⟨bs, 0, none⟩), .pointer (some ⟨bm, 0, none⟩)]) (encs := fun k => #[chV A 52 n k]) (ok := fun pre k => k = pre.length) (S := fun xs => xs = List.range (chN 52 n))
    (fun pre L => ∃ (os : List Oct) (ov : Value) (S : Nat → Prop) (Lb : RdL), L = [.box bm [.int .i64 52], .box bs [.slice A n c], .box tb [ov], .row 33 1 ov os.length (os.map Sl.val), It.bag S Lb] ∧ os.map (·.xs) = (List.range pre.length).map (fun k => pgB (partO b k) 0) ∧ ∀ o ∈ os, InBag Lb o) false rfl
    (enters_of Tryz.func112 (by kernel_rfl) rfl) (fun _ => rfl) (fun h => by cases h) (chunk_seq (by decide) (by decide) (by omega) hc ?cells) ⟨[], _, _, [], rfl, rfl, fun o h => by cases h⟩ HH.out ?a1 ?assign ?body ?done
  case cells =>
    rintro pre L ⟨os, ov, S, Lb, rfl, _, _⟩ W x y HW
    exact ⟨(HW.boxAt 3 rfl).cell 0 _ rfl, (HW.boxAt 2 rfl).cell 0 _ rfl⟩
  case assign =>
    intro l k W K hK
    simp only [chV]
    gi_wp2
    exact hK
  case body =>
    clear HH
    rintro l pre k y1 y2 y3 L W hlen hk ⟨os, ov, S, Lb, rfl, hos, hob⟩ H
    have HKp := Lib.hid hk.symm
    rw [← hk] at hlen hos
    clear hk
    have hk52 := (chN_lt (m := 52) (n := n) (k := k) (by decide)).1 hlen
    have HH := Lib.hid H
    have HOs := Lib.hid hos
    have HOb := Lib.hid hob
    have HOl := Lib.hid (show os.length = k by have h := congrArg List.length hos; simpa using h)
    have hol : os.length ≤ 100000000 := by rw [HOl.out]; have := chN_le n; omega
    clear H hos hob
    have hpart : Rd w 0 w.heap.size (A.map (·.add (k * 52))) (bytes (partO b k)) := by
      rw [partO, ← bytes_take, ← bytes_drop]
      exact (HR.out.drop _).take _
    have HPt := Lib.hid hpart
    have HPl := Lib.hid (show min 52 (n - k * 52) = (partO b k).length by rw [partO, List.length_take, List.length_drop, ← Hn.out])
    have hp52 := partO_len b k
    clear hpart
    refine wpIn_block ?_
    refine wpIn_seq ?_
    refine regionIn (by rintro ⟨_, _, h⟩; cases h.1) rfl ?_
    go_wp2_with fail
    refine (pgenc_ok W _ _ _ (partO b k) 0 HPl.out (HH.out.old HPt.out) hp52 (by decide) (by decide)).mono ?_
    rintro e w3 ⟨A3, c3, rfl, hown, e3⟩
    obtain ⟨S3, H3⟩ := HH.out.bagExt (j := 7) rfl e3 (L2 := [(A3, bytes (pgB (partO b k) 0))]) (fun q hq => by
      simp only [List.mem_cons, List.not_mem_nil, or_false] at hq
      subst hq
      exact Rd.of_own hown)
    obtain ⟨k1, k2⟩ := own_form2 hown
    have HH3 := Lib.hid H3
    clear HH H3 hown e3
    have HH := HH3
    clear HH3
    go_wp2_with fail
    (try simp only [Exit.then])
    refine regionIn (by rintro ⟨_, _, h⟩; cases h.1) rfl ?_
    (iterate 60 (first | (refine shl_load1 HH.out rfl rfl rfl 5 rfl rfl (by decide +kernel) ?_) | at_builtin | go_step))
    generalize hwA : World.alloc w3 _ = w6
    have HH2 := Lib.hid (HH.out.allocE hwA)
    clear HH hwA
    have HH := HH2
    clear HH2
    refine shl_app (e := 33) (size := 1) (bytes := 24) (news := [.slice A3 64 c3]) (lo := w.heap.size) (.tmp 15) (.tmp 17) _ rfl rfl Tryz.underlying22 hi0 hz0 hz1 hz2 rfl (by omega) HH.out 7 rfl rfl (m := 1) rfl rfl (HH.out.boxRd 0 rfl) (by simp [Value.oneCell']) (by simp only [maxLen]; omega) (by omega) ?_
    intro v7 w7 hh7 h7
    obtain ⟨A7, c7, rfl⟩ := h7
    have HH7 := Lib.hid hh7
    clear HH hh7
    have HH := HH7
    clear HH7
    go_wp2_with (first | (refine shl_store1 HH.out rfl rfl rfl rfl 6 rfl rfl rfl (by kernel_rfl) ?_; clear HH; intro wS HHS; have HH := Lib.hid HHS; clear HHS))
    refine ⟨_, ⟨os ++ [⟨A3, 64, c3, pgB (partO b k) 0⟩], .slice A7 (os.length + 1) c7, S3, [(A3, bytes (pgB (partO b k) 0))] ++ Lb, rfl, ?_, ?_⟩, ?_⟩
    · rw [HKp.out, List.map_append, HOs.out]; rfl
    · intro o ho
      rcases List.mem_append.1 ho with ho | ho
      · exact (HOb.out o ho).more _
      · simp only [List.mem_cons, List.not_mem_nil, or_false] at ho
        subst ho
        exact ⟨(pgB_len _ _ hp52).symm, k1, k2, List.mem_append_left _ (List.mem_cons_self ..)⟩
    · have h9 := HH.out.tail
      rw [List.length_append, List.map_append]
      exact h9
  case done =>
    rintro D y xs L W rfl ⟨os, ov, S, Lb, rfl, hos, hob⟩ H
    have HH2 := Lib.hid H
    clear HH H
    have HH := HH2
    clear HH2
    rw [List.length_range] at hos
    have hol : os.length = chN 52 n := by have h := congrArg List.length hos; simpa using h
    have HOl := Lib.hid hol
    have HOs := Lib.hid hos
    have HOb := Lib.hid hob
    clear hol hos hob
    (try simp only [Exit.inBlock, Exit.then])
    go_wp2_with (first | (refine shl_load1 HH.out rfl rfl rfl 4 rfl rfl (by decide +kernel) ?_))
    refine ⟨by simp, .inl ⟨_, _, rfl, run_takeDeferred (HH.out.objAt 1 rfl), ?_⟩⟩
    have H2 := HH.out.putObj 1 rfl (.deferred none)
    have hown := H2.rowAt 5 rfl
    obtain ⟨A7, c7, rfl, k1, k2, _⟩ := own_form hown
    exact ⟨_, results_tmp rfl _ _ _, ⟨A7, os.length, c7, os⟩, rfl, by rw [HCB.out, ← HOs.out], ⟨rfl, k1, k2, by rw [vals_flat]; exact Rd.of_own hown, fun o ho => (HOb.out o ho).at_ H2 (j := 6) rfl⟩, H2.ext⟩
end Go.Proofs.YtfongpdeflfioaaGreat
