/- slices.Clone over octets. -/
import Derived.Deep.DeepAppendWide
import Derived.Test.YthjpjhcbefhpbaaDat
namespace Go.Proofs.Ythjpjhcbefhpbaa
open Go.RowKit

theorem info5 : (Try.prog.info? 5).map (fun i => (i.zero, i.size, i.bytes)) = some (some (.int .u8 0), 1, 1) := by kernel_rfl
/-- 'append(v, l...)', v a row of the call's own, up to what growslice bears -/
theorem list_app_wide {P : Program} (w : World) {ops : Array Oper} {rest : List Oper} {o : Oper} {a : Act} {Q : Exit → Act → World → Prop} (hgd : o.guard = none) (s x : Operand) (t : TypeId)
    (ho : o.op = .call { callee := .builtin .append, args := #[s, x], argTypes := #[t, t] })
    (e : TypeId) (i : TypeInfo) (z : Value) (size bytes : Nat) (ht : P.underlying t = some (.slice e)) (hi : P.info? e = some i) (hz : i.zero = some z)
    (hsize : i.size = size) (hby : i.bytes = bytes) (hzs : z.cells.size = size) (hsz : 0 < size)
    (base : Nat) (v : Value) (n : Nat) (xs : List Value) (hs : a.eval s = v) (hown : w.ownsRow base e size v n xs) (lo h' : Nat) (A : Option Addr) (m c : Nat) (news : List Value) (hx : a.eval x = .slice A m c) (hl : news.length = m * size) (hr : Rd w lo h' A news) (h1 : ∀ u ∈ news, u.oneCell' = true)
    (h63 : n + m ≤ maxLen) (hbytes : ((n + m) + (n + m) / 4 + 192) * bytes ≤ 281474976710656) (hn : n * bytes ≤ 140737488355328) (hbase : base ≤ w.heap.size)
    (h : ∀ v' w', w'.ownsRow base e size v' (n + m) (xs ++ news) → (∀ b, Ext b w → b.heap.size ≤ base → Ext b w') → w.grownBy w' v.ownBlock → wpList P ops Q rest (a.put o.dst v') w') : wpList P ops Q (o :: rest) a w := by
  cases A with
  | none =>
    have hm : m = 0 := by
      rcases Nat.eq_zero_or_pos m with h0 | h0
      · exact h0
      · obtain ⟨b, o, h, _⟩ := hr (fun e => by have := Nat.mul_pos h0 hsz; simp [e] at hl; omega)
        cases h
    subst hm
    exact list_app w hgd s x t ho e i z size bytes ht hi hz hsize hby hzs hsz base v n xs hs hown lo h' none 0 c news hx hl hr h1 h63 hn hbase fun v' w' a1 a2 _ a3 => h v' w' a1 a2 a3
  | some ad =>
    have hcells : ∀ j u, news[j]? = some u → w.cell? (ad.add j) = some u := by
      intro j u hu
      obtain ⟨b, o, h, _, _, hc⟩ := hr (fun e => by simp [e] at hu)
      injection h with h
      subst h
      rw [add_lit]
      exact hc j u hu
    exact Go.wpList_append_own_wide w hgd s x t ho base e i z size bytes ht hi hz hsize hby hzs hsz v n xs hs hown ad m c news hx hl hcells h1 h63 hbytes hbase
      fun v' w' h2 h3 _ => h v' w' h2 (fun _ hb hle => ext_grown hb hown h3 hle) h3

set_option maxHeartbeats 400000 in
theorem cloneb_any (w : World) (base : Nat) (hbase : base ≤ w.heap.size) (A : Option Addr) (n c : Nat) (l : List UInt8) (hn : n = l.length) (hr : Rd w 0 w.heap.size A (bytes l)) (hb : n ≤ 150000000000000) :
    Calls Try.prog 20 #[.slice A n c] w fun e w' => ∃ v, e = .returned v ∧ w'.ownsRow base 5 1 v n (bytes l) ∧ Ext w w' := by
  have qT : ∀ (w : World) (a : Option Addr) (n c n' c' : Nat), (binOp .eql 34 (.slice a n c) (.slice none n' c')).run Try.prog w = .ok (.bool a.isNone) w := fun w a n c n' c' => Lib.run_eql_slice_nil w _ _ a n c n' c' Try.underlying34
  obtain ⟨i0, hi0, hz0, hz1, hz2⟩ := info_parts info5
  have hmx : n ≤ maxLen := by simp only [maxLen]; omega
  have hl : (bytes l).length = n * 1 := by rw [bytes_length, hn, Nat.mul_one]
  have Hn := Lib.hid hn
  clear hn
  cases A with
  | none =>
    have : n = 0 := by
      rcases Nat.eq_zero_or_pos n with h | h
      · exact h
      · obtain ⟨b, o, hh, _⟩ := hr (fun e => by rw [e] at hl; simp at hl; omega)
        cases hh
    subst this
    have : bytes l = [] := List.eq_nil_of_length_eq_zero (by simpa using hl)
    rw [this]
    clear hl
    go_enter Try.func20, Try.ntmps20
    go_wp2
    go_ret
    exact ⟨_, rfl, World.ownsRow_nil _ _ _ _, Ext.refl _⟩
  | some ad =>
    go_enter Try.func20, Try.ntmps20
    go_wp2_with
      (at_builtin
       refine list_app_wide _ rfl (.tmp 5) (.tmp 6) _ rfl 5 i0 _ 1 1 Try.underlying34 hi0 hz0 hz1 hz2 rfl (by omega) base (.slice (some ⟨w.heap.size, 0, none⟩) 0 0) 0 [] rfl
         (World.ownsRow_lit w #[] 0 hbase (Nat.zero_le _) rfl) 0 w.heap.size (some ad) n c (bytes l) rfl hl (hr.alloc (Nat.le_refl _) _) (bytes_one _) (by simpa using hmx) (by omega) (by omega) (by simp; omega) ?_
       intro v1 w1 hown1 he1 hg1)
    go_ret
    refine ⟨v1, rfl, by simpa using hown1, below_grown ((Below.refl _ _).alloc (Nat.le_refl _) _) hg1 (by simp) (.inr ⟨_, rfl, Nat.le_refl _⟩)⟩


/-- an octet slice of the call's own: it reads, and it may be written -/
structure Oct.Own (w : World) (lo : Nat) (s : Oct) : Prop where
  at_ : Oct.At w lo w.heap.size s
  wr : Wr w lo w.heap.size s.A (bytes s.xs)
theorem oct_own {w : World} {base n : Nat} {v : Value} {l : List UInt8} (h : w.ownsRow base 5 1 v n (bytes l)) (hn : n = l.length) : ∃ s : Oct, v = s.val ∧ s.xs = l ∧ Oct.Own w base s := by
  obtain ⟨A, c, rfl, h1, h2, _⟩ := own_form h
  exact ⟨⟨A, n, c, l⟩, rfl, rfl, ⟨⟨hn, h1, h2, by rw [octs_flat]; exact Rd.of_own h, fun _ _ => trivial⟩, Wr.of_own h⟩⟩
theorem clone_any (s : Oct) (w : World) (h : Oct.At w 0 w.heap.size s) (hb : s.n ≤ 150000000000000) :
    Calls Try.prog 20 #[s.val] w fun e w' => ∃ s' : Oct, e = .returned s'.val ∧ s'.xs = s.xs ∧ Oct.Own w' w.heap.size s' ∧ Ext w w' :=
  (cloneb_any w w.heap.size (Nat.le_refl _) s.A s.n s.c s.xs h.len (Oct.At.rdb h) hb).mono fun e w' ⟨v, he, ho, hx⟩ => by
    obtain ⟨s', rfl, h2, h3⟩ := oct_own ho h.len
    exact ⟨s', he, h2, h3, hx⟩

section
variable {w w' : World} {lo hi : Nat} {A : Option Addr} {cs : List Value}
theorem Wr.ext (h : Wr w lo hi A cs) (e : Ext w w') (hh : hi ≤ w.heap.size) : Wr w' lo w'.heap.size A cs := fun hn => by
  obtain ⟨b, o, h1, h2, h3, h4⟩ := h hn
  have hb : b < w.heap.size := Nat.lt_of_lt_of_le h3 hh
  exact ⟨b, o, h1, h2, Nat.lt_of_lt_of_le hb e.size, fun j u hu => ⟨(Below.cell (p := ⟨b, o + j, none⟩) e hb).trans (h4 j u hu).1, (Below.frozen (p := ⟨b, o + j, none⟩) e hb).trans (h4 j u hu).2⟩⟩
theorem Wr.new (w : World) (cs : Array Value) (t : TypeId) : Wr (w.alloc (.cells cs t)) w.heap.size (w.heap.size + 1) (some ⟨w.heap.size, 0, none⟩) cs.toList := fun _ =>
  ⟨_, _, rfl, Nat.le_refl _, Nat.lt_succ_self _, fun j u hu => ⟨by rw [Nat.zero_add]; exact cell_new w cs t j (by simpa using hu), by
    have := heap_alloc_new w (.cells cs t)
    unfold World.frozen?
    rw [this]
    simp⟩⟩
theorem Wr.more {lo' hi' : Nat} (h : Wr w lo hi A cs) (hl : lo' ≤ lo) (hh : hi ≤ hi') : Wr w lo' hi' A cs := fun hn => by
  obtain ⟨b, o, h1, h2, h3, h4⟩ := h hn
  exact ⟨b, o, h1, by omega, by omega, h4⟩
theorem Wr.set {b o : Nat} (h : Wr w lo hi (some ⟨b, o, none⟩) cs) {k : Nat} (hk : k < cs.length) (v : Value) : Wr (w.setCell ⟨b, o + k, none⟩ v) lo hi (some ⟨b, o, none⟩) (cs.set k v) := fun _ => by
  obtain ⟨b', o', he, h2, h3, h4⟩ := h (fun e => by simp [e] at hk)
  obtain ⟨rfl, rfl⟩ : b = b' ∧ o = o' := by simpa using he
  refine ⟨b, o, rfl, h2, h3, fun j u hu => ⟨?_, ?_⟩⟩
  · by_cases hj : k = j
    · subst hj
      rw [List.getElem?_set_self hk] at hu
      cases hu
      exact World.cell?_setCell_same w _ _ (h4 k _ (List.getElem?_eq_getElem hk)).1
    · rw [List.getElem?_set_ne hj] at hu
      exact (World.cell?_setCell_other w _ _ _ (fun e => by injection e with _ e2; omega)).trans (h4 j u hu).1
  · rw [World.frozen?_setCell]
    have hjl : j < cs.length := by
      have := (List.getElem?_eq_some_iff.1 hu).1
      simpa using this
    exact (h4 j _ (List.getElem?_eq_getElem hjl)).2
/-- a store elsewhere -/
theorem Wr.else_ {b o : Nat} (h : Wr w lo hi (some ⟨b, o, none⟩) cs) {p : Addr} (hp : p.block ≠ b) (v : Value) : Wr (w.setCell p v) lo hi (some ⟨b, o, none⟩) cs := fun hn => by
  obtain ⟨b', o', he, h2, h3, h4⟩ := h hn
  obtain ⟨rfl, rfl⟩ : b = b' ∧ o = o' := by simpa using he
  exact ⟨b, o, rfl, h2, h3, fun j u hu => ⟨(World.cell?_setCell_other w p _ v (fun e => hp (by rw [e]))).trans (h4 j u hu).1, by rw [World.frozen?_setCell]; exact (h4 j u hu).2⟩⟩
theorem Wr.drew (h : Wr w lo hi A cs) : Wr w.drew lo hi A cs := h
theorem Wr.cell {b o : Nat} (h : Wr w lo hi (some ⟨b, o, none⟩) cs) {k : Nat} {u : Value} (hk : cs[k]? = some u) : w.cell? ⟨b, o + k, none⟩ = some u ∧ w.frozen? ⟨b, o + k, none⟩ = false := by
  obtain ⟨b', o', he, h2, h3, h4⟩ := h (fun e => by simp [e] at hk)
  obtain ⟨rfl, rfl⟩ : b = b' ∧ o = o' := by simpa using he
  exact h4 k u hk
end
def nilv : Value := .slice none 0 0
def zeros (n : Nat) : List UInt8 := List.replicate n 0
theorem zeros_eq (m : Nat) : madeCells (Value.int .u8 0).cells m = (bytes (List.replicate m 0)).toArray := by
  apply Array.toList_inj.1
  show (madeCells #[Value.int .u8 0] m).toList = _
  rw [toList_madeCells_one]
  simp [bytes]
theorem mk_bytes (m : Nat) (hm : m ≤ 140737488355328) (u : World) : (Instr.makeSlice 34 (.int .i64 (m : Int)) (.int .i64 (m : Int))).run Try.prog u = .ok (.slice (some ⟨u.heap.size, 0, none⟩) m m) (u.alloc (.cells (bytes (zeros m)).toArray 5)) := by
  obtain ⟨i0, hi0, hz0, hz1, hz2⟩ := info_parts info5
  have h := run_make (P := Try.prog) u 34 5 i0 _ Try.underlying34 hi0 hz0 .i64 .i64 m m (by omega) (by omega) (by rw [hz2]; omega) (by omega)
  rw [hz1, Int.toNat_natCast, Nat.mul_one, zeros_eq] at h
  exact h
theorem infoS : (Try.prog.info? 34).map (fun i => (i.zero, i.size, i.bytes)) = some (some (.slice none 0 0), 1, 24) := by kernel_rfl
theorem mk_rows (m : Nat) (hm : m ≤ 1000000000) (u : World) : (Instr.makeSlice 26 (.int .i64 (m : Int)) (.int .i64 (m : Int))).run Try.prog u = .ok (.slice (some ⟨u.heap.size, 0, none⟩) m m) (u.alloc (.cells (List.replicate m nilv).toArray 34)) := by
  obtain ⟨i0, hi0, hz0, hz1, hz2⟩ := info_parts infoS
  have h := run_make (P := Try.prog) u 26 34 i0 _ Try.underlying26 hi0 hz0 .i64 .i64 m m (by omega) (by omega) (by rw [hz2]; omega) (by omega)
  rw [hz1, Int.toNat_natCast, Nat.mul_one, show madeCells (Value.slice none 0 0).cells m = (List.replicate m nilv).toArray by
    apply Array.toList_inj.1
    show (madeCells #[Value.slice none 0 0] m).toList = _
    rw [toList_madeCells_one]
    rfl] at h
  exact h
end Go.Proofs.Ythjpjhcbefhpbaa
