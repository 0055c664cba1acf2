/- The texts Bgh, Nd in one file. -/
import Derived.Test.YtckaneapjpiocaaGreatDoorM13
/- What calls made, kept as one item of a world. Laws over whatever program. -/
namespace Go.Proofs.YtckaneapjpiocaaGreatDoor
open Go.RowKit
set_option linter.unusedVariables false
set_option linter.unusedSimpArgs false

abbrev RdL := List (Option Addr × List Value)
/-- rows that read, in blocks of S -/
def It.bag (S : Nat → Prop) (L : RdL) : It :=
  .any S (fun w => (∀ k, S k → k < w.heap.size) ∧ ∀ q ∈ L, RdK w S q.1 q.2) (fun w k h hk => h.1 k hk) (fun w w' hs hk h => ⟨fun k h1 => Nat.lt_of_lt_of_le (h.1 k h1) hs, fun q hq hn => by
    obtain ⟨b, o, e, h1, h2, h3⟩ := h.2 q hq hn
    exact ⟨b, o, e, Nat.lt_of_lt_of_le h1 hs, h2, fun j u hu => (World.cell?_of_block (w := w) (a := ⟨b, o + j, none⟩) (hk b h2)).trans (h3 j u hu)⟩⟩)
section
variable {w0 w w' : World} {its : List It} {j : Nat} {S : Nat → Prop} {L L2 : RdL}
theorem Heap.bag0 (H : Heap w0 its w) : Heap w0 (It.bag (fun _ => False) [] :: its) w :=
  H.add (Ext.refl w) ⟨fun k hk => hk.elim, fun k hk => hk.elim, fun q hq => by cases hq⟩ (fun k hk => hk.elim)
/-- what a call made goes into the bag -/
theorem Heap.bagExt (H : Heap w0 its w) (hj : its[j]? = some (It.bag S L)) (e : Ext w w') (h : ∀ q ∈ L2, Rd w' w.heap.size w'.heap.size q.1 q.2) : ∃ S', Heap w0 (its.set j (It.bag S' (L2 ++ L))) w' := by
  have hb := H.all j _ hj
  refine ⟨fun k => S k ∨ (w.heap.size ≤ k ∧ k < w'.heap.size), H.upd hj (Keep.of_ext e) ⟨fun k hk => ?_, fun k hk => ?_, fun q hq => ?_⟩ (fun k hk => ?_) (fun k hk => ?_) (fun k hk => hb.1 k hk)⟩
  · rcases hk with hk | hk
    · exact hb.1 k hk
    · exact Nat.le_trans H.ext.size hk.1
  · rcases hk with hk | hk
    · exact Nat.lt_of_lt_of_le (hb.2.1 k hk) e.size
    · exact hk.2
  · rcases List.mem_append.1 hq with hq | hq
    · intro hn
      obtain ⟨b, o, ha, h1, h2, h3⟩ := h q hq hn
      exact ⟨b, o, ha, h2, .inr ⟨h1, h2⟩, h3⟩
    · intro hn
      obtain ⟨b, o, ha, h1, h2, h3⟩ := hb.2.2 q hq hn
      exact ⟨b, o, ha, Nat.lt_of_lt_of_le h1 e.size, .inl h2, fun j u hu => (Below.cell (p := ⟨b, o + j, none⟩) e h1).trans (h3 j u hu)⟩
  · rcases hk with hk | hk
    · exact .inl hk
    · exact .inr hk.1
  · rcases hk with hk | hk
    · exact .inl hk
    · exact .inr hk.1
/-- what reads by what reads in the bag -/
theorem Heap.bagMore (H : Heap w0 its w) (hj : its[j]? = some (It.bag S L)) (h : ∀ q ∈ L2, ∀ ok, (∀ q ∈ L, RdK w ok q.1 q.2) → RdK w ok q.1 q.2) : Heap w0 (its.set j (It.bag S (L2 ++ L))) w := by
  have hb := H.all j _ hj
  exact H.upd hj (Keep.refl _ _) ⟨hb.1, hb.2.1, fun q hq => by
    rcases List.mem_append.1 hq with hq | hq
    · exact h q hq S hb.2.2
    · exact hb.2.2 q hq⟩ (fun k hk => .inl hk) (fun k hk => .inl hk) (fun k hk => hb.1 k hk)
theorem Heap.bagRd (H : Heap w0 its w) (hj : its[j]? = some (It.bag S L)) {A : Option Addr} {cs : List Value} (hq : (A, cs) ∈ L) : Rd w w0.heap.size w.heap.size A cs := by
  have hb := H.all j _ hj
  intro hn
  obtain ⟨b, o, ha, h1, h2, h3⟩ := hb.2.2 _ hq hn
  exact ⟨b, o, ha, hb.1 b h2, h1, h3⟩
end
end Go.Proofs.YtckaneapjpiocaaGreatDoor
/- store.Need. -/
namespace Go.Proofs.YtckaneapjpiocaaGreatDoor
open Go.RowKit Go.Maps Go.Sort Go.Shelf
set_option linter.unusedVariables false
set_option linter.unusedSimpArgs false

theorem infoI : (Tryz.prog.info? 3).map (fun i => (i.zero, i.size, i.bytes)) = some (some (.int .i64 0), 1, 8) := by kernel_rfl
theorem infoObN : (Tryz.prog.info? 56).map (fun i => (i.zero, i.size, i.bytes)) = some (some (.agg #[.string ⟨#[]⟩, .slice none 0 0, .slice none 0 0]), 3, 64) := by kernel_rfl
theorem sizeObN : (Tryz.prog.info? 56).map (·.size) = some 3 := by kernel_rfl
theorem zerosI_eq (m : Nat) : madeCells (Value.int .i64 0).cells m = (ints (List.replicate m 0)).toArray := by
  apply Array.toList_inj.1
  show (madeCells #[Value.int .i64 0] m).toList = _
  rw [toList_madeCells_one]
  simp [ints]
theorem mk_ints (m : Nat) (hm : m ≤ 1000000000) (u : World) : (Instr.makeSlice 54 (.int .i64 (m : Int)) (.int .i64 (m : Int))).run Tryz.prog u = .ok (.slice (some ⟨u.heap.size, 0, none⟩) m m) (u.alloc (.cells (ints (List.replicate m 0)).toArray 3)) := by
  obtain ⟨i0, hi0, hz0, hz1, hz2⟩ := info_parts infoI
  have h := run_make (P := Tryz.prog) u 54 3 i0 _ Tryz.underlying54 hi0 hz0 .i64 .i64 m m (by omega) (by omega) (by rw [hz2]; omega) (by omega)
  rw [hz1, Int.toNat_natCast, Nat.mul_one, zerosI_eq] at h
  exact h
def strip (x : Ob) : ByteArray × List UInt8 × List Int := (x.key, x.data.xs, x.locs.xs)
def idxS (l : List (ByteArray × List UInt8 × List Int)) : List ByteArray := l.flatMap fun x => [x.1, num8 (x.2.1.length : Int), ⟨(numsO x.2.2).toArray⟩]
theorem idxT_strip : ∀ (l : List Ob), (∀ x ∈ l, x.data.n = x.data.xs.length) → idxT l = idxS (l.map strip)
  | [], _ => rfl
  | x :: l, h => by
    have h1 := idxT_strip l fun y hy => h y (List.mem_cons_of_mem _ hy)
    rw [idxT] at h1 ⊢
    rw [List.flatMap_cons, h1, h x (List.mem_cons_self ..)]
    rfl
/-- objects with as many sectors as they need, each 0 -/
def plcS (l : List Ob) : List (ByteArray × List UInt8 × List Int) := l.map fun x => (x.key, x.data.xs, List.replicate (cntP x.data.n) 0)
/-- an object whose octets came in, whose sectors a bag holds -/
structure PlIn (ls : List Ob) (L : RdL) (o : Ob) : Prop where
  src : ∃ x ∈ ls, o.key = x.key ∧ o.data = x.data
  len : o.locs.n = o.locs.xs.length
  le : o.locs.n ≤ o.locs.c
  cap : o.locs.c ≤ maxLen
  mem : (o.locs.A, ints o.locs.xs) ∈ L
  wf : ∀ y ∈ o.locs.xs, (Lit.int .i64 y).wf = true
theorem PlIn.more {ls : List Ob} {L : RdL} {o : Ob} (h : PlIn ls L o) {L2 : RdL} (hL : ∀ q ∈ L, q ∈ L2) : PlIn ls L2 o := ⟨h.src, h.len, h.le, h.cap, hL _ h.mem, h.wf⟩
theorem PlIn.at_ {w0 w : World} {its : List It} {j : Nat} {S : Nat → Prop} {L : RdL} {ls : List Ob} {o : Ob} (h : PlIn ls L o) (hl : ∀ x ∈ ls, Ob.At w0 0 w0.heap.size x) (H : Heap w0 its w) (hj : its[j]? = some (It.bag S L)) : Ob.At w 0 w.heap.size o := by
  obtain ⟨x, hx, h1, h2⟩ := h.src
  refine ⟨by rw [h1]; exact (hl x hx).key, by rw [h2]; exact Oct.At.on (hl x hx).data H.ext (Nat.le_refl _), ⟨h.len, h.le, h.cap, ?_, h.wf⟩⟩
  rw [ints_flat]
  exact (H.bagRd hj h.mem).more (Nat.zero_le _) (Nat.le_refl _)
theorem wB_len (l : List ByteArray) : (wB l).length ≤ 67111938 := by
  unfold wB
  by_cases h : wE l = 0
  · have h1 : ¬ 1024 < l.length := fun h' => by rw [wE, if_pos h'] at h; cases h
    have h2 : l.any longB = false := by
      rw [wE, if_neg h1] at h
      cases hq : l.any longB with
      | false => rfl
      | true => rw [hq] at h; cases h
    rw [if_pos h]
    have := acc_len l l.length h2 (Nat.le_refl _)
    rw [acc, List.take_of_length_le (Nat.le_refl _)] at this
    rw [flat]
    omega
  · rw [if_neg h]
    simp
def kd (x : Ob) : ByteArray × Nat := (x.key, x.data.n)
theorem ixT_plc (l : List Ob) (h : ∀ x ∈ l, x.data.n = x.data.xs.length) : idxS (plcS l) = ixT (l.map kd) := by
  induction l with
  | nil => rfl
  | cons x l ih =>
    have h1 := ih fun y hy => h y (List.mem_cons_of_mem _ hy)
    rw [plcS, idxS, List.map_cons, List.flatMap_cons, ← plcS, ← idxS, h1, List.map_cons, ixT, ixT, List.flatMap_cons]
    rw [← h x (List.mem_cons_self ..)]
    rfl
def smP (l : List Ob) : Nat := (l.map fun x => cntP x.data.n).sum
theorem smP_take (l : List Ob) (k : Nat) (h : k < l.length) : smP (l.take (k + 1)) = smP (l.take k) + cntP l[k].data.n := by
  rw [List.take_succ_eq_append_getElem h, smP, smP, List.map_append, List.sum_append]; simp
theorem smP_le (l : List Ob) (B : Nat) (h : ∀ x ∈ l, x.data.n ≤ B) : smP l ≤ l.length * cntP B := by
  have := sum_le_mul (l.map fun x => cntP x.data.n) (cntP B) fun y hy => by
    obtain ⟨x, hx, rfl⟩ := List.mem_map.1 hy
    have := h x hx
    unfold cntP
    omega
  rwa [List.length_map] at this
set_option maxRecDepth 100000 in
set_option maxHeartbeats 8000000 in
theorem need_any (w : World) (s : Sl Ob) (h : Sl.At w 0 w.heap.size Ob.cells (Ob.At w 0 w.heap.size) s) (hN : s.n ≤ 1000) (hD : ∀ x ∈ s.xs, x.data.n ≤ 100000000) :
    Calls Tryz.prog 15 #[s.val] w fun e w' => e = .returned (.int .i64 (needO (s.xs.map kd))) ∧ Ext w w' := by
  obtain ⟨i0, hi0, hz0, hz1, hz2⟩ := info_parts infoObN
  have HL := Lib.hid h
  have HD := Lib.hid hD
  obtain ⟨A0, n, c0, xs⟩ := s
  have Hn := Lib.hid (show n = xs.length from h.len)
  have hmk := mk_ints
  have hn9 : n ≤ 1000 := hN
  clear h hD hN
  simp only [Sl.val] at *
  have HSm := Lib.hid (fun k => show smP (xs.take k) ≤ 2000000000 by
    have h1 := smP_le (xs.take k) 100000000 fun x hx => HD.out x (List.mem_of_mem_take hx)
    have h2 : (xs.take k).length ≤ 1000 := by rw [List.length_take]; have := Hn.out; omega
    have h3 : cntP 100000000 = 1923077 := by decide
    rw [h3] at h1
    have h4 := Nat.mul_le_mul_right 1923077 h2
    omega)
  go_enter Tryz.func15, Tryz.ntmps15
  go_upto_region 4 with fail
  have HH := Lib.hid (show Heap w [.row 56 3 (.slice none 0 0) 0 [], It.bag (fun _ => False) []] w from ((Heap.start w).bag0).row0)
  go_loopw [3, 4, 6, 7, 12] (fun sv v _ _ i wr => ∃ (k : Nat) (os : List Ob) (A : Option Addr) (c : Nat) (S : Nat → Prop) (L : RdL), k ≤ n ∧ i = .int .i64 (k : Int) ∧ v = .slice A os.length c ∧ (∃ sm : Nat, sv = .int .i64 (sm : Int) ∧ Hid (sm = smP (xs.take k))) ∧ Hid (os.map strip = plcS (xs.take k)) ∧ Hid (∀ o ∈ os, PlIn xs L o) ∧
    Hid (Heap w [.row 56 3 (.slice A os.length c) os.length (os.flatMap Ob.cells), It.bag S L] wr)) (fun _ _ _ _ i _ => n - (intOf i).toNat)
  case atStart => exact ⟨0, [], none, 0, _, [], Nat.zero_le _, rfl, rfl, ⟨0, rfl, Lib.hid rfl⟩, Lib.hid rfl, Lib.hid (by simp), HH⟩
  case round =>
    clear HH
    obtain ⟨k, os, A, c, S, L, hk, rfl, rfl, ⟨sm, rfl, HSs⟩, HS, HP, HH⟩ := hrel
    have HOl := Lib.hid (show os.length = k by have h := congrArg List.length HS.out; rw [List.length_map, plcS, List.length_map, List.length_take, ← Hn.out] at h; omega)
    have hol : os.length ≤ 1000 := by rw [HOl.out]; omega
    by_cases hlt : k < n
    · have l1 : k < xs.length := by rw [← Hn.out]; exact hlt
      obtain ⟨b1, o1, rfl, hb1, f0, f1, f2⟩ := rd_ob (HL.out.rd.ext HH.out.ext (Nat.le_refl _)) l1
      have HT := Lib.hid (show plcS (xs.take (k + 1)) = plcS (xs.take k) ++ [(xs[k].key, xs[k].data.xs, List.replicate (cntP xs[k].data.n) 0)] by rw [List.take_succ_eq_append_getElem l1, plcS, plcS, List.map_append]; rfl)
      have HT2 := Lib.hid (smP_take xs k l1)
      have HXm := Lib.hid (List.getElem_mem l1)
      have HXd := HD.out _ (List.getElem_mem l1)
      generalize xs[k] = x at *
      have HXe := Lib.hid (show x.data.val = .slice x.data.A x.data.n x.data.c from rfl)
      rw [HXe.out] at f1
      have hcp : cntP x.data.n ≤ 2000000 := by unfold cntP; omega
      have hsm1 : sm ≤ 2000000000 := by rw [HSs.out]; exact HSm.out k
      have hsw : IntKind.i64.wrap ((sm : Int) + ((cntP x.data.n : Nat) : Int)) = ((sm + cntP x.data.n : Nat) : Int) := by
        rw [IntWalk.i64_in _ (by omega)]; omega
      go_upto_region 6 with (first | (refine shl_store (HH.out.alloc _ _) sizeObN rfl rfl rfl rfl 0 rfl rfl rfl rfl ?_; clear HH; intro wS HHS; have HH := Lib.hid HHS; clear HHS))
      obtain ⟨tb, htb⟩ : ∃ b, b = wr.heap.size := ⟨_, rfl⟩
      rw [← htb] at HH ⊢
      clear htb f0 f1 f2
      go_upto_region 8 with (first | (refine shl_load1 HH.out rfl rfl rfl 0 rfl rfl (by decide +kernel) ?_) | (go_at_call 41; (with_reducible refine (count_any _ x.data.n (by omega)).mono ?_); rintro e wC ⟨rfl, eC⟩; have HHn := Lib.hid (HH.out.later eC); clear HH eC; have HH := HHn; clear HHn))
      have HHd := Lib.hid (show Heap w [.box tb [.string x.key, .slice x.data.A x.data.n x.data.c, x.locs.val], .row 56 3 (.slice A os.length c) os.length (os.flatMap Ob.cells), It.bag S L] wC.drew from HH.out.drew)
      clear HH
      refine wp_region_held_drew (S := Heap w [.box tb [.string x.key, .slice x.data.A x.data.n x.data.c, x.locs.val]]) (by kernel_rfl) (HHd.out.only 0 rfl) (fun hHeld => ?_)
      generalize World.drew _ = wd at *
      refine tU 0 rfl (by kernel_rfl) (fun _ _ _ h => h) (by intro w hSw; (try dsimp only at hSw); go_simp <;> with_reducible rfl) (by assumption) ?_; (try simp only [Act.put, lyA, lyB, lyC])
      refine tU 1 rfl (by kernel_rfl) (fun _ _ _ h => h) (by intro w hSw; (try dsimp only at hSw); go_simp <;> with_reducible rfl) (by assumption) ?_; (try simp only [Act.put, lyA, lyB, lyC])
      refine takeL 2 rfl (by kernel_rfl) (by kernel_rfl) (by kernel_rfl) (fun _ _ _ h => h) (by kernel_rfl) (fun wT hST => sh_run_load1 hST rfl rfl 0 rfl rfl (by kernel_rfl)) hHeld ?_; (try simp only [Act.put, lyA, lyB, lyC])
      refine tU 3 rfl (by kernel_rfl) (fun _ _ _ h => h) (by intro w hSw; (try dsimp only at hSw); go_simp <;> with_reducible rfl) (by assumption) ?_; (try simp only [Act.put, lyA, lyB, lyC])
      refine takeL 4 rfl (by kernel_rfl) (by kernel_rfl) (by kernel_rfl) (fun _ _ _ h => h) (by kernel_rfl) (fun wT hST => sh_run_load1 hST rfl rfl 0 rfl rfl (by kernel_rfl)) hHeld ?_; (try simp only [Act.put, lyA, lyB, lyC])
      refine tU 5 rfl (by kernel_rfl) (fun _ _ _ h => h) (by intro w hSw; (try dsimp only at hSw); go_simp <;> with_reducible rfl) (by assumption) ?_; (try simp only [Act.put, lyA, lyB, lyC])
      clear hHeld
      refine oneL 6 rfl (by kernel_rfl) (by kernel_rfl) (fun K hK => ?_)
      have hmk2 := mk_ints (cntP x.data.n) (by omega)
      clear hmk
      go_simp
      generalize hwA : World.alloc wd _ = w3
      obtain ⟨S3, H3⟩ := HHd.out.bagExt (w' := w3) (j := 2) rfl (by rw [← hwA]; exact (Ext.refl _).alloc _) (L2 := [(some ⟨wd.heap.size, 0, none⟩, ints (List.replicate (cntP x.data.n) 0))]) (fun q hq => by
        simp only [List.mem_cons, List.not_mem_nil, or_false] at hq
        subst hq
        rw [← hwA]
        exact (rd_new wd (ints (List.replicate (cntP x.data.n) 0)).toArray 3).more (Nat.le_refl _) (by rw [World.size_alloc]; exact Nat.le_refl _))
      have HH3 := Lib.hid (show Heap w [.box tb [.string x.key, .slice x.data.A x.data.n x.data.c, x.locs.val], .row 56 3 (.slice A os.length c) os.length (os.flatMap Ob.cells), It.bag S3 ((some ⟨wd.heap.size, 0, none⟩, ints (List.replicate (cntP x.data.n) 0)) :: L)] w3 from H3)
      clear HHd H3 hwA hmk2
      refine hK.out _ _ ((HH3).out.only 0 rfl) (fun hHeld => ?_); clear hK K; (try simp only [Act.put, lyA, lyB, lyC])
      refine tU 7 rfl (by kernel_rfl) (fun _ _ _ h => h) (by intro w hSw; (try dsimp only at hSw); go_simp <;> with_reducible rfl) (by assumption) ?_; (try simp only [Act.put, lyA, lyB, lyC])
      clear hHeld
      refine oneL 8 rfl (by kernel_rfl) (by kernel_rfl) (fun K hK => ?_)
      go_simp
      generalize hwA : World.alloc w3 _ = w4
      have HH4 := Lib.hid (HH3.out.allocE hwA)
      clear HH3 hwA
      refine hK.out _ _ ((HH4).out.only 1 rfl) (fun hHeld => ?_); clear hK K; (try simp only [Act.put, lyA, lyB, lyC]); clear hHeld
      refine oneL 9 rfl (by kernel_rfl) (by kernel_rfl) (fun K hK => ?_)
      refine sh_app (.tmp 23) (.tmp 31) _ rfl Tryz.underlying33 hi0 hz0 hz1 hz2 rfl (by omega) HH4.out 2 rfl rfl (m := 1) rfl rfl (HH4.out.boxRd 0 rfl) (by simp [Value.oneCell']) (by simp only [maxLen]; omega) (by omega) ?_
      rintro v7 w7 hh7 ⟨A7, c7, rfl⟩
      have HH7 := Lib.hid hh7
      clear hh7 HH4
      refine hK.out _ _ ((HH7).out.only 1 rfl) (fun hHeld => ?_); clear hK K; (try simp only [Act.put, lyA, lyB, lyC])
      refine tU 10 rfl (by kernel_rfl) (fun _ _ _ h => h) (by intro w hSw; (try dsimp only at hSw); go_simp <;> with_reducible rfl) (by assumption) ?_; (try simp only [Act.put, lyA, lyB, lyC])
      refine wpAnyH_done (by kernel_rfl) ?_ _
      clear hHeld
      go_wp2_with fail
      go_roundw
      case rel =>
        refine ⟨k + 1, os ++ [⟨x.key, x.data, ⟨some ⟨wd.heap.size, 0, none⟩, cntP x.data.n, cntP x.data.n, List.replicate (cntP x.data.n) 0⟩⟩], A7, c7, S3, (some ⟨wd.heap.size, 0, none⟩, ints (List.replicate (cntP x.data.n) 0)) :: L, by omega, by go_num, by rw [List.length_append]; rfl, ⟨sm + cntP x.data.n, by first | rfl | simp [hsw], Lib.hid (by rw [HT2.out, HSs.out])⟩, Lib.hid ?_, Lib.hid (fun o ho => ?_), Lib.hid ?_⟩
        · rw [List.map_append, HS.out, HT.out]; rfl
        · rcases List.mem_append.1 ho with ho | ho
          · exact (HP.out o ho).more (fun q hq => List.mem_cons_of_mem _ hq)
          · simp only [List.mem_singleton] at ho
            subst ho
            exact ⟨⟨x, HXm.out, rfl, rfl⟩, by simp, Nat.le_refl _, by simp only [maxLen]; omega, List.mem_cons_self .., fun y hy => by rw [(List.mem_replicate.1 hy).2]; rfl⟩
        · have h9 := HH7.out.tail.tail
          rw [List.length_append, List.flatMap_append]
          exact h9
      case measure => simp [intOf]; omega
    · obtain rfl : n = k := by omega
      have ht : xs.take n = xs := List.take_of_length_le (by rw [← Hn.out]; exact Nat.le_refl _)
      rw [ht] at HS HSs
      have hsm1 : sm ≤ 2000000000 := by rw [HSs.out]; have := HSm.out n; rwa [ht] at this
      clear ht
      by_cases h0 : n = 0
      · subst h0
        have hx : xs = [] := List.length_eq_zero_iff.1 Hn.out.symm
        have HV := Lib.hid (show needO (xs.map kd) = 0 by rw [hx]; rfl)
        clear hx
        go_wp2_with fail
        go_ret
        exact ⟨retI (by rw [HV.out]; rfl), HH.out.ext⟩
      · have hat := fun o ho => (HP.out o ho).at_ (fun x hx => HL.out.all x hx) HH.out (j := 1) rfl
        have HI := Lib.hid (index_any wr ⟨A, os.length, c, os⟩ ⟨rfl, (own_form2 (HH.out.rowAt 0 rfl)).1, (own_form2 (HH.out.rowAt 0 rfl)).2, (HH.out.rowRd 0 rfl).more (Nat.zero_le _) (Nat.le_refl _), hat⟩ (by dsimp only; omega) (fun o ho => by
          have h10 := List.mem_map_of_mem (f := strip) ho
          rw [HS.out, plcS] at h10
          obtain ⟨z, hz, h11⟩ := List.mem_map.1 h10
          have h12 : List.replicate (cntP z.data.n) 0 = o.locs.xs := congrArg (fun q => q.2.2) h11
          have h13 := HD.out z hz
          rw [(HP.out o ho).len, ← h12, List.length_replicate]
          unfold cntP; omega))
        have HTx := Lib.hid (show idxT os = ixT (xs.map kd) by rw [idxT_strip os (fun o ho => (hat o ho).data.len), HS.out, ixT_plc xs fun x hx => (HL.out.all x hx).data.len])
        have HV := Lib.hid (show needO (xs.map kd) = sm + cntP (wB (ixT (xs.map kd))).length by
          have hx : (xs.map kd).isEmpty = false := by
            have := Hn.out
            cases xs with
            | nil => exact absurd this h0
            | cons x xs => rfl
          rw [needO, hx, HSs.out, smP, List.map_map]; rfl)
        rw [HTx.out] at HI
        have HWl := Lib.hid (wB_len (ixT (xs.map kd)))
        generalize ixT (xs.map kd) = IT at *
        obtain ⟨WB, hWB⟩ : ∃ WB, WB = wB IT := ⟨_, rfl⟩
        rw [← hWB] at HWl HV
        have HWB := Lib.hid hWB.symm
        clear hWB
        have HW2 := Lib.hid (fun e w' (h : WriteOk IT wr e w') => show ∃ v E, e = .returned (.tuple #[v, .int .i64 E]) ∧ w'.ownsRow wr.heap.size 5 1 v WB.length (bytes WB) ∧ Ext wr w' from by
          obtain ⟨v, h1, h2, h3⟩ := h
          rw [HWB.out] at h2
          exact ⟨v, _, h1, h2, h3⟩)
        have hne : ((n : Int) == 0) = false := by rw [beq_eq_false_iff_ne]; omega
        have hlw := HWl.out
        have hcw : cntP WB.length ≤ 1300000 := by unfold cntP; omega
        have hsw : IntKind.i64.wrap ((sm : Int) + ((cntP WB.length : Nat) : Int)) = ((sm + cntP WB.length : Nat) : Int) := by
          rw [IntWalk.i64_in _ (by omega)]; omega
        simp only [Sl.val] at HI
        clear hat HTx HS HSs HP
        go_upto_region 12 with fail
        go_wp2_with fail
        refine HI.out.mono ?_
        intro e w8 h8
        obtain ⟨v8, E8, rfl, hown8, e8⟩ := HW2.out _ _ h8
        obtain ⟨A8, c8, rfl, _, _, _⟩ := own_form hown8
        clear h8 hown8 HI HW2
        go_wp2_with fail
        refine (count_any _ WB.length (by omega)).mono ?_
        rintro e w9 ⟨rfl, e9⟩
        go_wp2_with fail
        go_ret
        exact ⟨retI (by rw [HV.out]; first | rfl | omega | simp [hsw]), (HH.out.ext.trans e8).trans e9⟩
end Go.Proofs.YtckaneapjpiocaaGreatDoor
