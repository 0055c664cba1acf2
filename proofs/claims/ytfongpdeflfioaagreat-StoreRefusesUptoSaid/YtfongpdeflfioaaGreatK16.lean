/- The texts Own, Cut in one file. -/
import Derived.Test.YtfongpdeflfioaaGreatK15
import Derived.Test.YtfongpdeflfioaaGreatK14
/- A device of the call's own: its row of sectors may be written, its row of writes appended to. -/
namespace Go.Proofs.YtfongpdeflfioaaGreat
open Go.RowKit

/-- a row's value and an address: not of one block -/
def Ap (v : Value) (s : Oct) : Prop := s.xs ≠ [] → ∀ b o, s.A = some ⟨b, o, none⟩ → v.ownBlock ≠ some b
/-- the row of sectors lies in block g, all else behind it -/
structure Dev.OwnAt (w : World) (lo g : Nat) (d : Dev) : Prop where
  lo_g : lo ≤ g
  g_lt : g < w.heap.size
  secA : d.secs.A = some ⟨g, 0, none⟩
  secn : d.secs.n = d.secs.xs.length
  secc : d.secs.n ≤ d.secs.c
  secm : d.secs.c ≤ maxLen
  row : Wr w g w.heap.size (some ⟨g, 0, none⟩) (d.secs.xs.map Sl.val)
  secs : ∀ s ∈ d.secs.xs, Oct.At w (g + 1) w.heap.size s ∧ Ap d.waits.val s
  wn : d.waits.n = d.waits.xs.length
  own : w.ownsRow (g + 1) 114 2 d.waits.val d.waits.n (d.waits.xs.flatMap Wrt.cells)
  waits : ∀ x ∈ d.waits.xs, Wrt.At w (g + 1) w.heap.size x ∧ Ap d.waits.val x.data
theorem vals_flat (ss : List Oct) : ss.flatMap octv = ss.map Sl.val := by
  induction ss with
  | nil => rfl
  | cons s ss ih => rw [List.flatMap_cons, ih]; rfl
section
variable {w w' : World} {lo g : Nat} {d : Dev}
theorem Dev.OwnAt.ext (h : Dev.OwnAt w lo g d) (e : Ext w w') : Dev.OwnAt w' lo g d :=
  ⟨h.lo_g, Nat.lt_of_lt_of_le h.g_lt e.size, h.secA, h.secn, h.secc, h.secm, h.row.ext e (Nat.le_refl _), fun s hs => ⟨Oct.At.on (h.secs s hs).1 e (Nat.le_refl _), (h.secs s hs).2⟩, h.wn, own_ext h.own e,
    fun x hx => ⟨Wrt.At.imp (h.waits x hx).1 (rd_on e (Nat.le_refl _)), (h.waits x hx).2⟩⟩
theorem own_le {v : Value} {base n : Nat} {e : TypeId} {size : Nat} {cs : List Value} {A : Option Addr} {m c : Nat} (h : w.ownsRow base e size v n cs) (hv : v = .slice A m c) : n = m ∧ m ≤ c ∧ c ≤ maxLen := by
  obtain ⟨A', c', rfl, h1, h2, _⟩ := own_form h
  injection hv with a b c
  subst a b c
  exact ⟨rfl, h1, h2⟩
theorem Dev.OwnAt.at_ (h : Dev.OwnAt w lo g d) : Dev.At w lo w.heap.size d := by
  obtain ⟨h1, h2, h3⟩ := own_le h.own rfl
  refine ⟨⟨h.secn, h.secc, h.secm, ?_, fun s hs => Oct.At.low (h.secs s hs).1 (by have := h.lo_g; omega)⟩, ⟨h.wn, h2, h3, ?_, fun x hx => Wrt.At.imp (h.waits x hx).1 fun _ _ hr => hr.more (by have := h.lo_g; omega) (Nat.le_refl _)⟩⟩
  · rw [vals_flat, h.secA]
    exact (h.row.more h.lo_g (Nat.le_refl _)).rd
  · exact (Rd.of_own h.own).more (by have := h.lo_g; omega) (Nat.le_refl _)
theorem Rd.grown_ne {w w' : World} {lo hi : Nat} {A : Option Addr} {cs : List Value} (h : Rd w lo hi A cs) {v : Value} (hg : w.grownBy w' v.ownBlock) (hB : hi ≤ w.heap.size) (hr : cs ≠ [] → ∀ b o, A = some ⟨b, o, none⟩ → v.ownBlock ≠ some b) : Rd w' lo hi A cs := fun hn => by
  obtain ⟨b, o, e, h1, h2, h3⟩ := h hn
  exact ⟨b, o, e, h1, h2, fun j u hu => (World.cell?_of_block (hg.block b (by omega) (fun e' => hr hn b o e e'.symm))).trans (h3 j u hu)⟩
theorem Wr.grown_ne {w w' : World} {lo hi : Nat} {A : Option Addr} {cs : List Value} (h : Wr w lo hi A cs) {v : Value} (hg : w.grownBy w' v.ownBlock) (hB : hi ≤ w.heap.size) (hr : cs ≠ [] → ∀ b o, A = some ⟨b, o, none⟩ → v.ownBlock ≠ some b) : Wr w' lo hi A cs := fun hn => by
  obtain ⟨b, o, e, h1, h2, h3⟩ := h hn
  have hb := hg.block b (by omega) (fun e' => hr hn b o e e'.symm)
  exact ⟨b, o, e, h1, h2, fun j u hu => ⟨(World.cell?_of_block hb).trans (h3 j u hu).1, (World.frozen?_of_block hb).trans (h3 j u hu).2⟩⟩
theorem octs_ne {s : Oct} (h : s.xs.flatMap octc ≠ []) : s.xs ≠ [] := fun e => h (by rw [e]; rfl)
/-- octets stay where another row grows -/
theorem Oct.At.grown {w w' : World} {lo : Nat} {s : Oct} (h : Oct.At w lo w.heap.size s) {v : Value} (hg : w.grownBy w' v.ownBlock) (hr : Ap v s) : Oct.At w' lo w'.heap.size s :=
  ⟨h.len, h.le, h.cap, (h.rd.grown_ne hg (Nat.le_refl _) fun hn => hr (octs_ne hn)).more (Nat.le_refl _) hg.size, h.all⟩
theorem Oct.At.set_low {w : World} {lo hi : Nat} {s : Oct} (h : Oct.At w lo hi s) {p : Addr} (hp : p.block < lo) (u : Value) : Oct.At (w.setCell p u) lo hi s := Oct.At.imp h fun _ _ hr => hr.setCell_low hp u
/-- octets that stand in a block below one -/
theorem Ap.of_lt {w : World} {lo hi : Nat} {s : Oct} (h : Oct.At w lo hi s) {v : Value} (hv : ∀ b, v.ownBlock = some b → hi ≤ b ∨ b < lo) : Ap v s := fun hn b o hA hb => by
  obtain ⟨b', o', e, h1, h2, _⟩ := h.rd (fun e => hn (by
    have := congrArg List.length e
    rw [flat_length (size := 1) (fun _ => rfl)] at this
    exact List.eq_nil_of_length_eq_zero (by simpa using this)))
  rw [hA] at e
  obtain ⟨rfl, _⟩ : b = b' ∧ o = o' := by simpa using e
  rcases hv b hb with h' | h' <;> omega
theorem own_set {w : World} {base n : Nat} {v : Value} {e : TypeId} {size : Nat} {cs : List Value} (h : w.ownsRow base e size v n cs) {p : Addr} (hp : p.block < base) (u : Value) : (w.setCell p u).ownsRow base e size v n cs := by
  refine ⟨h.1, ?_⟩
  rcases h.2 with h' | ⟨g, cap, cur, h1, h2, h3, h4⟩
  · exact .inl h'
  · exact .inr ⟨g, cap, cur, h1, h2, (Below.heap_setCell _ _ _ _ (by omega)).trans h3, h4⟩
theorem Dev.OwnAt.set_low {w : World} {lo g : Nat} {d : Dev} (h : Dev.OwnAt w lo g d) {p : Addr} (hp : p.block < g) (u : Value) : Dev.OwnAt (w.setCell p u) lo g d := by
  have hs : (w.setCell p u).heap.size = w.heap.size := by simp
  refine ⟨h.lo_g, by rw [hs]; exact h.g_lt, h.secA, h.secn, h.secc, h.secm, by rw [hs]; exact h.row.else_ (by omega) u, fun s hx => ⟨by rw [hs]; exact Oct.At.set_low (h.secs s hx).1 (by omega) u, (h.secs s hx).2⟩, h.wn, own_set h.own (by omega) u,
    fun x hx => ⟨⟨(h.waits x hx).1.p0, (h.waits x hx).1.p1, by rw [hs]; exact Oct.At.set_low (h.waits x hx).1.data (by omega) u⟩, (h.waits x hx).2⟩⟩
end
end Go.Proofs.YtfongpdeflfioaaGreat
/- pages.Cut. -/
namespace Go.Proofs.YtfongpdeflfioaaGreat
open Go.RowKit Go.Maps Go.Sort Go.Shelf
set_option linter.unusedVariables false
set_option linter.unusedSimpArgs false
attribute [local go_sem] Oper.semAt_some

/-- octets cut to pages -/
def cutB (b : List UInt8) : List (List UInt8) := (List.range (cntP b.length)).map fun k => pgB (partO b k) 0
/-- octets that stand in a bag -/
structure InBag (L : RdL) (o : Oct) : Prop where
  len : o.n = o.xs.length
  le : o.n ≤ o.c
  cap : o.c ≤ maxLen
  mem : (o.A, bytes o.xs) ∈ L
theorem InBag.more {L : RdL} {o : Oct} (h : InBag L o) (L2 : RdL) : InBag (L2 ++ L) o := ⟨h.len, h.le, h.cap, List.mem_append_right _ h.mem⟩
theorem InBag.at_ {w0 w : World} {its : List It} {j : Nat} {S : Nat → Prop} {L : RdL} {o : Oct} (h : InBag L o) (H : Heap w0 its w) (hj : its[j]? = some (It.bag S L)) : Oct.At w w0.heap.size w.heap.size o :=
  ⟨h.len, h.le, h.cap, by rw [octs_flat]; exact H.bagRd hj h.mem, fun _ _ => trivial⟩
theorem infoSl : (Tryz.prog.info? 33).map (fun i => (i.zero, i.size, i.bytes)) = some (some (.slice none 0 0), 1, 24) := by kernel_rfl
theorem chN_le (n : Nat) : chN 52 n ≤ n := by unfold chN; omega
theorem partO_len (b : List UInt8) (k : Nat) : (partO b k).length ≤ 52 := by rw [partO, List.length_take]; omega
theorem pgenc_ok (w : World) (A : Option Addr) (n c : Nat) (b : List UInt8) (next : Int) (hn : n = b.length) (hr : Rd w 0 w.heap.size A (bytes b)) (hb : b.length ≤ 52) (h1 : 0 ≤ next) (h2 : next < 8192) :
    Calls Tryz.prog 80 #[.slice A n c, .int .i64 next] w fun e w' => ∃ A c, e = .returned (.tuple #[.slice A 64 c, .int .i64 0]) ∧ w'.ownsRow w.heap.size 5 1 (.slice A 64 c) 64 (bytes (pgB b next)) ∧ Ext w w' := by
  have h0 : pgE b next = 0 := by unfold pgE; rw [if_neg (by omega), if_neg (by omega)]
  refine (pgenc_any w A n c b next hn hr (by omega) (by omega) (by omega)).mono ?_
  rintro e w' ⟨v, m, rfl, ho, ee⟩
  rw [h0, if_pos rfl] at ho
  have hn : m = 64 := by have := ho.1; rw [bytes_length, pgB_len _ _ hb, Nat.mul_one] at this; exact this.symm
  subst hn
  obtain ⟨A, c, rfl, _, _, _⟩ := own_form ho
  exact ⟨A, c, by rw [h0], ho, ee⟩
set_option maxRecDepth 100000 in
set_option maxHeartbeats 8000000 in
theorem pcut_any (w : World) (A : Option Addr) (n c : Nat) (b : List UInt8) (hn : n = b.length) (hr : Rd w 0 w.heap.size A (bytes b)) (hc : n ≤ c) (hN : n ≤ 100000000) :
    Calls Tryz.prog 96 #[.slice A n c] w fun e w' => ∃ s : Sl Oct, e = .returned s.val ∧ s.xs.map (·.xs) = cutB b ∧ Sl.At w' w.heap.size w'.heap.size octv (Oct.At w' w.heap.size w'.heap.size) s ∧ Ext w w' := by
  obtain ⟨i0, hi0, hz0, hz1, hz2⟩ := info_parts infoSl
  have Hn := Lib.hid hn
  have HR := Lib.hid hr
  have HCB := Lib.hid (show cutB b = (List.range (chN 52 n)).map fun k => pgB (partO b k) 0 by rw [hn]; rfl)
  clear hn hr
  refine (callsIn_wide (n := 1)).1 (callsIn_of_wp_marks Tryz.func96 rfl trivial ?_ rfl)
  simp only [Tryz.ntmps96, List.size_toArray, List.length_cons, List.length_nil, Nat.reduceAdd, Nat.reduceSub, Array.replicate_succ, Array.replicate_zero, List.push_toArray, List.append_toArray, List.nil_append, List.cons_append]
  refine wpIn_wide.2 ?_
  go_upto_region 2 with fail
  generalize hwH : World.alloc w _ = w1
  have HH := Lib.hid ((((Heap.start w).bag0.row0 (e := 33) (size := 1))).allocE hwH)
  clear hwH
  obtain ⟨tb, htb⟩ : ∃ b, b = w.heap.size := ⟨_, rfl⟩
  rw [← htb] at HH ⊢
  clear htb
  go_wp2_with fail
  refine (chunk_any _ A n c 52 (by decide) (by decide)).mono ?_
  rintro e w2 ⟨rfl, rfl⟩
  generalize hwH : World.alloc (World.alloc w1 _) _ = w2
  have HH2 := Lib.hid ((HH.out.alloc _ _).allocE hwH)
  clear HH hwH
  have HH := HH2
  clear HH2
  simp only [World.size_alloc] at HH
  obtain ⟨bs, hbs⟩ : ∃ b, b = w1.heap.size := ⟨_, rfl⟩
  obtain ⟨bm, hbm⟩ : ∃ b, b = w1.heap.size + 1 := ⟨_, rfl⟩
  rw [← hbm, ← hbs] at HH ⊢
  clear hbs hbm
  go_wp2_with fail
  refine rangeH (P := Tryz.prog) (α := Nat) (N := chN 52 n) (w0 := w) (gf := 112) (lb := #[.pointer (some ⟨bs, 0, none⟩), .pointer (some ⟨bm, 0, none⟩)]) (encs := fun k => #[chV A 52 n k]) (ok := fun pre k => k = pre.length) (S := fun xs => xs = List.range (chN 52 n))
    (fun pre L => ∃ (os : List Oct) (ov : Value) (S : Nat → Prop) (Lb : RdL), L = [.box bm [.int .i64 52], .box bs [.slice A n c], .box tb [ov], .row 33 1 ov os.length (os.map Sl.val), It.bag S Lb] ∧ os.map (·.xs) = (List.range pre.length).map (fun k => pgB (partO b k) 0) ∧ ∀ o ∈ os, InBag Lb o) false rfl
    (enters_of Tryz.func112 (by kernel_rfl) rfl) (fun _ => rfl) (fun h => by cases h) (chunk_seq (by decide) (by decide) (by omega) hc ?cells) ⟨[], _, _, [], rfl, rfl, fun o h => by cases h⟩ HH.out ?a1 ?assign ?body ?done
  case cells =>
    rintro pre L ⟨os, ov, S, Lb, rfl, _, _⟩ W x y HW
    exact ⟨(HW.boxAt 3 rfl).cell 0 _ rfl, (HW.boxAt 2 rfl).cell 0 _ rfl⟩
  case assign =>
    intro l k W K hK
    simp only [chV]
    gi_wp2
    exact hK
  case body =>
    clear HH
    rintro l pre k y1 y2 y3 L W hlen hk ⟨os, ov, S, Lb, rfl, hos, hob⟩ H
    have HKp := Lib.hid hk.symm
    rw [← hk] at hlen hos
    clear hk
    have hk52 := (chN_lt (m := 52) (n := n) (k := k) (by decide)).1 hlen
    have HH := Lib.hid H
    have HOs := Lib.hid hos
    have HOb := Lib.hid hob
    have HOl := Lib.hid (show os.length = k by have h := congrArg List.length hos; simpa using h)
    have hol : os.length ≤ 100000000 := by rw [HOl.out]; have := chN_le n; omega
    clear H hos hob
    have hpart : Rd w 0 w.heap.size (A.map (·.add (k * 52))) (bytes (partO b k)) := by
      rw [partO, ← bytes_take, ← bytes_drop]
      exact (HR.out.drop _).take _
    have HPt := Lib.hid hpart
    have HPl := Lib.hid (show min 52 (n - k * 52) = (partO b k).length by rw [partO, List.length_take, List.length_drop, ← Hn.out])
    have hp52 := partO_len b k
    clear hpart
    refine wpIn_block ?_
    refine wpIn_seq ?_
    refine regionIn (by rintro ⟨_, _, h⟩; cases h.1) rfl ?_
    go_wp2_with fail
    refine (pgenc_ok W _ _ _ (partO b k) 0 HPl.out (HH.out.old HPt.out) hp52 (by decide) (by decide)).mono ?_
    rintro e w3 ⟨A3, c3, rfl, hown, e3⟩
    obtain ⟨S3, H3⟩ := HH.out.bagExt (j := 7) rfl e3 (L2 := [(A3, bytes (pgB (partO b k) 0))]) (fun q hq => by
      simp only [List.mem_cons, List.not_mem_nil, or_false] at hq
      subst hq
      exact Rd.of_own hown)
    obtain ⟨k1, k2⟩ := own_form2 hown
    have HH3 := Lib.hid H3
    clear HH H3 hown e3
    have HH := HH3
    clear HH3
    go_wp2_with fail
    (try simp only [Exit.then])
    refine regionIn (by rintro ⟨_, _, h⟩; cases h.1) rfl ?_
    (iterate 60 (first | (refine shl_load1 HH.out rfl rfl rfl 5 rfl rfl (by decide +kernel) ?_) | at_builtin | go_step))
    generalize hwA : World.alloc w3 _ = w6
    have HH2 := Lib.hid (HH.out.allocE hwA)
    clear HH hwA
    have HH := HH2
    clear HH2
    refine shl_app (e := 33) (size := 1) (bytes := 24) (news := [.slice A3 64 c3]) (lo := w.heap.size) (.tmp 15) (.tmp 17) _ rfl rfl Tryz.underlying22 hi0 hz0 hz1 hz2 rfl (by omega) HH.out 7 rfl rfl (m := 1) rfl rfl (HH.out.boxRd 0 rfl) (by simp [Value.oneCell']) (by simp only [maxLen]; omega) (by omega) ?_
    intro v7 w7 hh7 h7
    obtain ⟨A7, c7, rfl⟩ := h7
    have HH7 := Lib.hid hh7
    clear HH hh7
    have HH := HH7
    clear HH7
    go_wp2_with (first | (refine shl_store1 HH.out rfl rfl rfl rfl 6 rfl rfl rfl (by kernel_rfl) ?_; clear HH; intro wS HHS; have HH := Lib.hid HHS; clear HHS))
    refine ⟨_, ⟨os ++ [⟨A3, 64, c3, pgB (partO b k) 0⟩], .slice A7 (os.length + 1) c7, S3, [(A3, bytes (pgB (partO b k) 0))] ++ Lb, rfl, ?_, ?_⟩, ?_⟩
    · rw [HKp.out, List.map_append, HOs.out]; rfl
    · intro o ho
      rcases List.mem_append.1 ho with ho | ho
      · exact (HOb.out o ho).more _
      · simp only [List.mem_cons, List.not_mem_nil, or_false] at ho
        subst ho
        exact ⟨(pgB_len _ _ hp52).symm, k1, k2, List.mem_append_left _ (List.mem_cons_self ..)⟩
    · have h9 := HH.out.tail
      rw [List.length_append, List.map_append]
      exact h9
  case done =>
    rintro D y xs L W rfl ⟨os, ov, S, Lb, rfl, hos, hob⟩ H
    have HH2 := Lib.hid H
    clear HH H
    have HH := HH2
    clear HH2
    rw [List.length_range] at hos
    have hol : os.length = chN 52 n := by have h := congrArg List.length hos; simpa using h
    have HOl := Lib.hid hol
    have HOs := Lib.hid hos
    have HOb := Lib.hid hob
    clear hol hos hob
    (try simp only [Exit.inBlock, Exit.then])
    go_wp2_with (first | (refine shl_load1 HH.out rfl rfl rfl 4 rfl rfl (by decide +kernel) ?_))
    refine ⟨by simp, .inl ⟨_, _, rfl, run_takeDeferred (HH.out.objAt 1 rfl), ?_⟩⟩
    have H2 := HH.out.putObj 1 rfl (.deferred none)
    have hown := H2.rowAt 5 rfl
    obtain ⟨A7, c7, rfl, k1, k2, _⟩ := own_form hown
    exact ⟨_, results_tmp rfl _ _ _, ⟨A7, os.length, c7, os⟩, rfl, by rw [HCB.out, ← HOs.out], ⟨rfl, k1, k2, by rw [vals_flat]; exact Rd.of_own hown, fun o ho => (HOb.out o ho).at_ H2 (j := 6) rfl⟩, H2.ext⟩
end Go.Proofs.YtfongpdeflfioaaGreat
