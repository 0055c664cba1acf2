/- The texts Rt, Cnk, Clone, New in one file. -/
import Derived.Test.YtfongpdeflfioaaGreatK14
import Derived.Test.YtfongpdeflfioaaGreatK3
import Derived.Test.YtfongpdeflfioaaGreatK4
import Derived.Deep.DeepAppendWide
import Derived.Test.YtfongpdeflfioaaGreatK6
import Derived.Test.YtfongpdeflfioaaGreatK13
/- store's right, uber.Slot. -/
namespace Go.Proofs.YtfongpdeflfioaaGreat
open Go.RowKit Go.Maps Go.Sort Go.Shelf
set_option linter.unusedVariables false
set_option linter.unusedSimpArgs false

theorem infoOb : (Tryz.prog.info? 35).map (fun i => (i.zero, i.size, i.bytes)) = some (some (.agg #[.string ⟨#[]⟩, .slice none 0 0, .slice none 0 0]), 3, 64) := by kernel_rfl
theorem zerosI_eq (m : Nat) : madeCells (Value.int .i64 0).cells m = (ints (List.replicate m 0)).toArray := by
  apply Array.toList_inj.1
  show (madeCells #[Value.int .i64 0] m).toList = _
  rw [toList_madeCells_one]
  simp [ints]
theorem mk_ints (m : Nat) (hm : m ≤ 1000000000) (u : World) : (Instr.makeSlice 29 (.int .i64 (m : Int)) (.int .i64 (m : Int))).run Tryz.prog u = .ok (.slice (some ⟨u.heap.size, 0, none⟩) m m) (u.alloc (.cells (ints (List.replicate m 0)).toArray 3)) := by
  obtain ⟨i0, hi0, hz0, hz1, hz2⟩ := info_parts infoI
  have h := run_make (P := Tryz.prog) u 29 3 i0 _ Tryz.underlying29 hi0 hz0 .i64 .i64 m m (by omega) (by omega) (by rw [hz2]; omega) (by omega)
  rw [hz1, Int.toNat_natCast, Nat.mul_one, zerosI_eq] at h
  exact h
theorem bit_and (t : Int) (h0 : 0 ≤ t) (h1 : t ≤ 9223372036854775807) : bits .and .i64 t 1 = t % 2 := by
  obtain ⟨n, rfl⟩ : ∃ n : Nat, t = (n : Int) := ⟨t.toNat, by omega⟩
  have e1 : (BitVec.ofInt 64 (n : Int)).toNat = n := by
    rw [BitVec.ofInt_natCast, BitVec.toNat_ofNat]; exact Nat.mod_eq_of_lt (by omega)
  have e2 : (BitVec.ofInt 64 (1 : Int)).toNat = 1 := by decide
  show IntKind.i64.wrap ((BitVec.ofInt 64 (n : Int) &&& BitVec.ofInt 64 (1 : Int)).toNat : Int) = _
  rw [BitVec.toNat_and, e1, e2, Nat.and_one_is_mod, IntWalk.i64_in _ (by omega)]
  omega
def longD (x : Ob) : Bool := decide (65536 < x.data.n)
set_option maxRecDepth 100000 in
set_option maxHeartbeats 4000000 in
theorem slong_any (w : World) (x : Ob) : Calls Tryz.prog 95 #[.agg x.cells.toArray] w fun e w' => e = .returned (.bool (longD x)) ∧ Ext w w' := by
  have HV := Lib.hid (show longD x = decide ((65536 : Int) < (x.data.n : Int)) by unfold longD; rw [decide_eq_decide]; omega)
  generalize longD x = V at *
  obtain ⟨key, ⟨dA, dn, dc, dx⟩, ⟨lA, ln, lc, lx⟩⟩ := x
  simp only [Ob.cells, Sl.val] at *
  go_enter Tryz.func95, Tryz.ntmps95
  go_upto_region 1 with fail
  generalize hwH : World.alloc w _ = w1; have HH := Lib.hid (Heap.one hwH); clear hwH
  go_wp2_with (refine shl_load1 HH.out rfl rfl rfl 0 rfl rfl (by decide +kernel) ?_)
  go_ret
  exact ⟨retB HV.out.symm, HH.out.ext⟩
theorem call_slong : ∀ args w, (callFunc 95 args).run Tryz.prog w = .ok (.enter 95 args) w := callF Tryz.func95 (by kernel_rfl) rfl
set_option maxRecDepth 100000 in
set_option maxHeartbeats 4000000 in
theorem slot_any (w : World) (u : Ub) (h : u.wf) (h0 : 0 ≤ u.txg) : Calls Tryz.prog 60 #[.agg u.cells.toArray] w fun e w' => e = .returned (.int .i64 (u.txg % 2)) ∧ Ext w w' := by
  obtain ⟨t, f, o⟩ := u
  simp only [Ub.cells] at *
  go_enter Tryz.func60, Tryz.ntmps60
  go_upto_region 1 with fail
  generalize hwH : World.alloc w _ = w1; have HH := Lib.hid (Heap.one hwH); clear hwH
  go_wp2_with (refine shl_load1 HH.out rfl rfl rfl 0 rfl rfl (by decide +kernel) ?_)
  go_ret
  exact ⟨retI (bit_and _ h0 (by have := h.t1; exact this)), HH.out.ext⟩
def strip (x : Ob) : ByteArray × List UInt8 × List Int := (x.key, x.data.xs, x.locs.xs)
def idxS (l : List (ByteArray × List UInt8 × List Int)) : List ByteArray := l.flatMap fun x => [x.1, num8 (x.2.1.length : Int), ⟨(numsO x.2.2).toArray⟩]
theorem idxT_strip : ∀ (l : List Ob), (∀ x ∈ l, x.data.n = x.data.xs.length) → idxT l = idxS (l.map strip)
  | [], _ => rfl
  | x :: l, h => by
    have h1 := idxT_strip l fun y hy => h y (List.mem_cons_of_mem _ hy)
    rw [idxT] at h1 ⊢
    rw [List.flatMap_cons, h1, h x (List.mem_cons_self ..)]
    rfl
/-- objects with as many sectors as they need, each 0 -/
def plcS (l : List Ob) : List (ByteArray × List UInt8 × List Int) := l.map fun x => (x.key, x.data.xs, List.replicate (cntP x.data.n) 0)
/-- may objects be committed? -/
def rtE (s : Sto) (l : List Ob) : Int :=
  if 256 < l.length then 3 else if risB l = false then 31 else if l.any longD = true then 5 else if wE (idxS (plcS l)) ≠ 0 ∨ 65536 < (wB (idxS (plcS l))).length then 5 else if 1099511627776 ≤ s.ub.txg then 15 else 0
/-- an object whose octets came in, whose sectors a bag holds -/
structure PlIn (ls : List Ob) (L : RdL) (o : Ob) : Prop where
  src : ∃ x ∈ ls, o.key = x.key ∧ o.data = x.data
  len : o.locs.n = o.locs.xs.length
  le : o.locs.n ≤ o.locs.c
  cap : o.locs.c ≤ maxLen
  mem : (o.locs.A, ints o.locs.xs) ∈ L
  wf : ∀ y ∈ o.locs.xs, (Lit.int .i64 y).wf = true
theorem PlIn.more {ls : List Ob} {L : RdL} {o : Ob} (h : PlIn ls L o) {L2 : RdL} (hL : ∀ q ∈ L, q ∈ L2) : PlIn ls L2 o := ⟨h.src, h.len, h.le, h.cap, hL _ h.mem, h.wf⟩
theorem PlIn.at_ {w0 w : World} {its : List It} {j : Nat} {S : Nat → Prop} {L : RdL} {ls : List Ob} {o : Ob} (h : PlIn ls L o) (hl : ∀ x ∈ ls, Ob.At w0 0 w0.heap.size x) (H : Heap w0 its w) (hj : its[j]? = some (It.bag S L)) : Ob.At w 0 w.heap.size o := by
  obtain ⟨x, hx, h1, h2⟩ := h.src
  refine ⟨by rw [h1]; exact (hl x hx).key, by rw [h2]; exact Oct.At.on (hl x hx).data H.ext (Nat.le_refl _), ⟨h.len, h.le, h.cap, ?_, h.wf⟩⟩
  rw [ints_flat]
  exact (H.bagRd hj h.mem).more (Nat.zero_le _) (Nat.le_refl _)
set_option maxRecDepth 100000 in
set_option maxHeartbeats 8000000 in
theorem right_any (w : World) (s : Sto) (l : Sl Ob) (hl : Sl.At w 0 w.heap.size Ob.cells (Ob.At w 0 w.heap.size) l) : Calls Tryz.prog 52 #[.agg s.cells.toArray, l.val] w fun e w' => e = .returned (.int .i64 (rtE s l.xs)) ∧ Ext w w' := by
  obtain ⟨i0, hi0, hz0, hz1, hz2⟩ := info_parts infoOb
  have hmk := mk_ints
  have HRi := Lib.hid (fun W (hW : Ext w W) => rising_any W l (Sl.At.imp hl (rd_on hW (Nat.le_refl _) _ _) (fun x hx => Ob.At.on hx hW (Nat.le_refl _))))
  have HLo := Lib.hid (fun W (hW : Ext w W) => conb_any W l.A l.n l.c l.xs hl.len (Nat.le_trans hl.le (Nat.le_trans hl.cap (by decide))) (Rd.at hl.rd hW (Nat.le_refl _)) longD (.func (.func 95) #[] #[]) 95 #[] rfl call_slong (fun x _ w2 _ => slong_any w2 x))
  have HV := Lib.hid (show rtE s l.xs = if 256 < l.xs.length then 3 else if risB l.xs = false then 31 else if l.xs.any longD = true then 5 else if wE (idxS (plcS l.xs)) ≠ 0 ∨ 65536 < (wB (idxS (plcS l.xs))).length then 5 else if 1099511627776 ≤ s.ub.txg then 15 else 0 from rfl)
  have HL := Lib.hid hl
  clear hl
  generalize rtE s l.xs = V at *
  obtain ⟨⟨⟨sA, sn, sc, sx⟩, ⟨wA, wn, wc, wx⟩⟩, ⟨ut, uf, uo⟩, ⟨oA, on, oc, ox⟩, ⟨iA, im, ic, ix⟩⟩ := s
  obtain ⟨lA, n, lc, xs⟩ := l
  have Hn := Lib.hid (show n = xs.length from HL.out.len)
  simp only [Sto.cells, Sl.val] at *
  by_cases h1 : 256 < n
  · have HV2 := Lib.hid (show V = 3 by rw [HV.out, if_pos (by rw [← Hn.out]; exact h1)])
    go_enter Tryz.func52, Tryz.ntmps52
    go_upto_region 1 with fail
    generalize hwH : World.alloc w _ = w1; have HH := Lib.hid (Heap.one hwH); clear hwH
    go_wp2_with fail
    go_ret
    exact ⟨retI HV2.out.symm, HH.out.ext⟩
  cases h2 : risB xs
  · have HV2 := Lib.hid (show V = 31 by rw [HV.out, if_neg (by rw [← Hn.out]; exact h1), if_pos h2])
    rw [h2] at HRi
    go_enter Tryz.func52, Tryz.ntmps52
    go_upto_region 1 with fail
    generalize hwH : World.alloc w _ = w1; have HH := Lib.hid (Heap.one hwH); clear hwH
    go_wp2_with (go_at_call 41; (with_reducible refine (HRi.out _ HH.out.ext).mono ?_); rintro e wC ⟨rfl, eC⟩; have HHn := Lib.hid (HH.out.later eC); clear HH eC; have HH := HHn; clear HHn)
    go_ret
    exact ⟨retI HV2.out.symm, HH.out.ext⟩
  rw [h2] at HRi
  cases h3 : xs.any longD
  · rw [h3] at HLo
    have HV3 := Lib.hid (show V = if wE (idxS (plcS xs)) ≠ 0 ∨ 65536 < (wB (idxS (plcS xs))).length then 5 else if 1099511627776 ≤ ut then 15 else 0 by rw [HV.out, if_neg (by rw [← Hn.out]; exact h1), if_neg (by rw [h2]; decide), if_neg (by rw [h3]; decide)])
    have HD := Lib.hid (fun x (hx : x ∈ xs) => show x.data.n ≤ 65536 by
      cases hb : longD x
      · simpa [longD] using hb
      · rw [List.any_eq_true.2 ⟨x, hx, hb⟩] at h3; cases h3)
    go_enter Tryz.func52, Tryz.ntmps52
    go_upto_region 1 with fail
    generalize hwH : World.alloc w _ = w1; have HH := Lib.hid (Heap.one hwH); clear hwH
    go_upto_region 8 with (first | (go_at_call 41; (with_reducible refine (HRi.out _ HH.out.ext).mono ?_); rintro e wC ⟨rfl, eC⟩; have HHn := Lib.hid (HH.out.later eC); clear HH eC; have HH := HHn; clear HHn) | (go_at_call 42; (with_reducible refine (HLo.out _ HH.out.ext).mono ?_); rintro e wC ⟨rfl, eC⟩; have HHn := Lib.hid (HH.out.later eC); clear HH eC; have HH := HHn; clear HHn))
    have HH2 := Lib.hid ((HH.out.bag0).row0 (e := 35) (size := 3))
    clear HH HV
    have HH := HH2
    clear HH2
    go_wp2_with fail
    go_loopw [5, 23] (fun v i wr => ∃ (k : Nat) (os : List Ob) (A : Option Addr) (c : Nat) (S : Nat → Prop) (L : RdL), k ≤ n ∧ i = .int .i64 (k : Int) ∧ v = .slice A os.length c ∧ Hid (os.map strip = plcS (xs.take k)) ∧ Hid (∀ o ∈ os, PlIn xs L o) ∧
      Hid (Heap w [.row 35 3 (.slice A os.length c) os.length (os.flatMap Ob.cells), It.bag S L, .box w.heap.size [.slice sA sn sc, .slice wA wn wc, .int .i64 ut, .int .i64 uf, .int .i64 uo, .slice oA on oc, .slice iA im ic]] wr)) (fun _ i _ => n - (intOf i).toNat)
    case atStart => exact ⟨0, [], none, 0, _, [], Nat.zero_le _, rfl, rfl, Lib.hid rfl, Lib.hid (by simp), HH⟩
    case round =>
      clear HH
      obtain ⟨k, os, A, c, S, L, hk, rfl, rfl, HS, HP, HH⟩ := hrel
      have HOl := Lib.hid (show os.length = k by have h := congrArg List.length HS.out; rw [List.length_map, plcS, List.length_map, List.length_take, ← Hn.out] at h; omega)
      have hol : os.length ≤ 256 := by rw [HOl.out]; omega
      by_cases hlt : k < n
      · have l1 : k < xs.length := by rw [← Hn.out]; exact hlt
        obtain ⟨b1, o1, rfl, hb1, f0, f1, f2⟩ := rd_ob (HL.out.rd.ext HH.out.ext (Nat.le_refl _)) l1
        have HT := Lib.hid (show plcS (xs.take (k + 1)) = plcS (xs.take k) ++ [(xs[k].key, xs[k].data.xs, List.replicate (cntP xs[k].data.n) 0)] by rw [List.take_succ_eq_append_getElem l1, plcS, plcS, List.map_append]; rfl)
        have HXm := Lib.hid (List.getElem_mem l1)
        have HXd := HD.out _ (List.getElem_mem l1)
        generalize xs[k] = x at *
        have HXe := Lib.hid (show x.data.val = .slice x.data.A x.data.n x.data.c from rfl)
        rw [HXe.out] at f1
        have hcp : cntP x.data.n ≤ 1261 := by unfold cntP; omega
        go_upto_region 11 with (first | (refine shl_store (HH.out.alloc _ _) sizeOb rfl rfl rfl rfl 0 rfl rfl rfl rfl ?_; clear HH; intro wS HHS; have HH := Lib.hid HHS; clear HHS))
        obtain ⟨tb, htb⟩ : ∃ b, b = wr.heap.size := ⟨_, rfl⟩
        rw [← htb] at HH ⊢
        have HHd := Lib.hid (show Heap w [.box tb [.string x.key, .slice x.data.A x.data.n x.data.c, x.locs.val], .row 35 3 (.slice A os.length c) os.length (os.flatMap Ob.cells), It.bag S L, .box w.heap.size [.slice sA sn sc, .slice wA wn wc, .int .i64 ut, .int .i64 uf, .int .i64 uo, .slice oA on oc, .slice iA im ic]] wS.drew from HH.out.drew)
        clear HH htb f0 f1 f2
        refine wp_region_held_drew (S := Heap w [.box tb [.string x.key, .slice x.data.A x.data.n x.data.c, x.locs.val]]) (by kernel_rfl) (HHd.out.only 0 rfl) (fun hHeld => ?_)
        generalize World.drew wS = wd at *
        refine takeL 0 (v := ?_) rfl (by kernel_rfl) (by kernel_rfl) (by kernel_rfl) (fun _ _ _ h => h) (by kernel_rfl) ?_ (by assumption) ?_; rotate_left; (focus (intro w hSw; (try dsimp only at hSw); go_simp <;> with_reducible rfl)); (try simp only [Act.put, lyA, lyB, lyC])
        refine takeL 1 (v := ?_) rfl (by kernel_rfl) (by kernel_rfl) (by kernel_rfl) (fun _ _ _ h => h) (by kernel_rfl) ?_ (by assumption) ?_; rotate_left; (focus (intro w hSw; (try dsimp only at hSw); go_simp <;> with_reducible rfl)); (try simp only [Act.put, lyA, lyB, lyC])
        refine takeL 2 rfl (by kernel_rfl) (by kernel_rfl) (by kernel_rfl) (fun _ _ _ h => h) (by kernel_rfl) (fun wT hST => sh_run_load1 hST rfl rfl 0 rfl rfl (by kernel_rfl)) hHeld ?_; (try simp only [Act.put, lyA, lyB, lyC])
        refine takeL 3 (v := ?_) rfl (by kernel_rfl) (by kernel_rfl) (by kernel_rfl) (fun _ _ _ h => h) (by kernel_rfl) ?_ (by assumption) ?_; rotate_left; (focus (intro w hSw; (try dsimp only at hSw); go_simp <;> with_reducible rfl)); (try simp only [Act.put, lyA, lyB, lyC])
        refine takeL 4 rfl (by kernel_rfl) (by kernel_rfl) (by kernel_rfl) (fun _ _ _ h => h) (by kernel_rfl) (fun wT hST => sh_run_load1 hST rfl rfl 0 rfl rfl (by kernel_rfl)) hHeld ?_; (try simp only [Act.put, lyA, lyB, lyC])
        refine takeL 5 (v := ?_) rfl (by kernel_rfl) (by kernel_rfl) (by kernel_rfl) (fun _ _ _ h => h) (by kernel_rfl) ?_ (by assumption) ?_; rotate_left; (focus (intro w hSw; (try dsimp only at hSw); go_simp <;> with_reducible rfl)); (try simp only [Act.put, lyA, lyB, lyC])
        refine takeL 6 rfl (by kernel_rfl) (by kernel_rfl) (by kernel_rfl) (fun _ _ _ h => h) (by kernel_rfl) (fun wT hST => sh_run_load1 hST rfl rfl 0 rfl rfl (by kernel_rfl)) hHeld ?_; (try simp only [Act.put, lyA, lyB, lyC])
        refine takeL 7 (v := ?_) rfl (by kernel_rfl) (by kernel_rfl) (by kernel_rfl) (fun _ _ _ h => h) (by kernel_rfl) ?_ (by assumption) ?_; rotate_left; (focus (intro w hSw; (try dsimp only at hSw); go_simp <;> with_reducible rfl)); (try simp only [Act.put, lyA, lyB, lyC])
        clear hHeld
        refine oneL 8 rfl (by kernel_rfl) (by kernel_rfl) (fun K hK => ?_)
        go_simp
        refine (count_any wd x.data.n (by omega)).mono ?_
        rintro e w2 ⟨rfl, e2⟩
        have HH2 := Lib.hid (HHd.out.later e2)
        clear HHd e2
        go_wp2_with fail
        refine hK.out _ _ ((HH2).out.only 0 rfl) (fun hHeld => ?_); clear hK K; (try simp only [Act.put, lyA, lyB, lyC]); clear hHeld
        refine oneL 9 rfl (by kernel_rfl) (by kernel_rfl) (fun K hK => ?_)
        have hmk2 := mk_ints (cntP x.data.n) (by omega)
        clear hmk
        go_simp
        generalize hwA : World.alloc w2 _ = w3
        obtain ⟨S3, H3⟩ := HH2.out.bagExt (w' := w3) (j := 2) rfl (by rw [← hwA]; exact (Ext.refl _).alloc _) (L2 := [(some ⟨w2.heap.size, 0, none⟩, ints (List.replicate (cntP x.data.n) 0))]) (fun q hq => by
          simp only [List.mem_cons, List.not_mem_nil, or_false] at hq
          subst hq
          rw [← hwA]
          exact (rd_new w2 (ints (List.replicate (cntP x.data.n) 0)).toArray 3).more (Nat.le_refl _) (by rw [World.size_alloc]; exact Nat.le_refl _))
        have HH3 := Lib.hid (show Heap w [.box tb [.string x.key, .slice x.data.A x.data.n x.data.c, x.locs.val], .row 35 3 (.slice A os.length c) os.length (os.flatMap Ob.cells), It.bag S3 ((some ⟨w2.heap.size, 0, none⟩, ints (List.replicate (cntP x.data.n) 0)) :: L), .box w.heap.size [.slice sA sn sc, .slice wA wn wc, .int .i64 ut, .int .i64 uf, .int .i64 uo, .slice oA on oc, .slice iA im ic]] w3 from H3)
        clear HH2 H3 hwA hmk2
        refine hK.out _ _ ((HH3).out.only 0 rfl) (fun hHeld => ?_); clear hK K; (try simp only [Act.put, lyA, lyB, lyC])
        refine takeL 10 (v := ?_) rfl (by kernel_rfl) (by kernel_rfl) (by kernel_rfl) (fun _ _ _ h => h) (by kernel_rfl) ?_ (by assumption) ?_; rotate_left; (focus (intro w hSw; (try dsimp only at hSw); go_simp <;> with_reducible rfl)); (try simp only [Act.put, lyA, lyB, lyC])
        clear hHeld
        refine oneL 11 rfl (by kernel_rfl) (by kernel_rfl) (fun K hK => ?_)
        go_simp
        generalize hwA : World.alloc w3 _ = w4
        have HH4 := Lib.hid (HH3.out.allocE hwA)
        clear HH3 hwA
        refine hK.out _ _ ((HH4).out.only 1 rfl) (fun hHeld => ?_); clear hK K; (try simp only [Act.put, lyA, lyB, lyC]); clear hHeld
        refine oneL 12 rfl (by kernel_rfl) (by kernel_rfl) (fun K hK => ?_)
        refine sh_app (.tmp 27) (.tmp 38) _ rfl Tryz.underlying28 hi0 hz0 hz1 hz2 rfl (by omega) HH4.out 2 rfl rfl (m := 1) rfl rfl (HH4.out.boxRd 0 rfl) (by simp [Value.oneCell']) (by simp only [maxLen]; omega) (by omega) ?_
        rintro v7 w7 hh7 ⟨A7, c7, rfl⟩
        have HH7 := Lib.hid hh7
        clear hh7 HH4
        refine hK.out _ _ ((HH7).out.only 1 rfl) (fun hHeld => ?_); clear hK K; (try simp only [Act.put, lyA, lyB, lyC])
        refine takeL 13 (v := ?_) rfl (by kernel_rfl) (by kernel_rfl) (by kernel_rfl) (fun _ _ _ h => h) (by kernel_rfl) ?_ (by assumption) ?_; rotate_left; (focus (intro w hSw; (try dsimp only at hSw); go_simp <;> with_reducible rfl)); (try simp only [Act.put, lyA, lyB, lyC])
        refine wpAnyH_done (by kernel_rfl) ?_ _
        clear hHeld
        go_wp2_with fail
        go_roundw
        case rel =>
          refine ⟨k + 1, os ++ [⟨x.key, x.data, ⟨some ⟨w2.heap.size, 0, none⟩, cntP x.data.n, cntP x.data.n, List.replicate (cntP x.data.n) 0⟩⟩], A7, c7, S3, (some ⟨w2.heap.size, 0, none⟩, ints (List.replicate (cntP x.data.n) 0)) :: L, by omega, by go_num, by rw [List.length_append]; rfl, Lib.hid ?_, Lib.hid (fun o ho => ?_), Lib.hid ?_⟩
          · rw [List.map_append, HS.out, HT.out]; rfl
          · rcases List.mem_append.1 ho with ho | ho
            · exact (HP.out o ho).more (fun q hq => List.mem_cons_of_mem _ hq)
            · simp only [List.mem_singleton] at ho
              subst ho
              exact ⟨⟨x, HXm.out, rfl, rfl⟩, by simp, Nat.le_refl _, by simp only [maxLen]; omega, List.mem_cons_self .., fun y hy => by rw [(List.mem_replicate.1 hy).2]; rfl⟩
          · have h9 := HH7.out.tail.tail
            rw [List.length_append, List.flatMap_append]
            exact h9
        case measure => simp [intOf]; omega
      · obtain rfl : n = k := by omega
        have ht : xs.take n = xs := List.take_of_length_le (by rw [← Hn.out]; exact Nat.le_refl _)
        rw [ht] at HS
        clear ht
        have hat := fun o ho => (HP.out o ho).at_ (fun x hx => HL.out.all x hx) HH.out (j := 1) rfl
        have HI := Lib.hid (index_any wr ⟨A, os.length, c, os⟩ ⟨rfl, (own_form2 (HH.out.rowAt 0 rfl)).1, (own_form2 (HH.out.rowAt 0 rfl)).2, (HH.out.rowRd 0 rfl).more (Nat.zero_le _) (Nat.le_refl _), hat⟩ (by dsimp only; omega) (fun o ho => by
          obtain ⟨x, hx, h8, h9⟩ := (HP.out o ho).src
          have h10 := List.mem_map_of_mem (f := strip) ho
          rw [HS.out, plcS] at h10
          obtain ⟨z, hz, h11⟩ := List.mem_map.1 h10
          have h12 : List.replicate (cntP z.data.n) 0 = o.locs.xs := congrArg (fun q => q.2.2) h11
          have h13 := HD.out z hz
          rw [(HP.out o ho).len, ← h12, List.length_replicate]
          unfold cntP; omega))
        have HTx := Lib.hid (show idxT os = idxS (plcS xs) by rw [idxT_strip os (fun o ho => (hat o ho).data.len), HS.out])
        rw [HTx.out] at HI
        clear hat
        simp only [Sl.val] at HI
        go_wp2_with fail
        refine HI.out.mono ?_
        rintro e w5 ⟨v5, rfl, hown, e5⟩
        obtain ⟨A5, c5, rfl, _, _, _⟩ := own_form hown
        have HH5 := Lib.hid (HH.out.later e5)
        clear HH hown e5 HI
        have HH := HH5
        clear HH5
        have HWl := wB_len (idxS (plcS xs))
        generalize (wB (idxS (plcS xs))).length = bl at *
        generalize wE (idxS (plcS xs)) = we at *
        by_cases g1 : we = 0
        · subst g1
          by_cases g2 : 65536 < bl
          · have HV4 := Lib.hid (show V = 5 by rw [HV3.out, if_pos (.inr g2)])
            have gd : decide ((65536 : Int) < (bl : Int)) = true := by simp; omega
            go_wp2_with fail
            go_ret
            exact ⟨retI HV4.out.symm, HH.out.ext⟩
          · have gd : decide ((65536 : Int) < (bl : Int)) = false := by simp; omega
            have HV4 := Lib.hid (show V = if 1099511627776 ≤ ut then 15 else 0 by rw [HV3.out, if_neg (by rintro (h | h); exact h rfl; exact g2 h)])
            by_cases g3 : 1099511627776 ≤ ut
            · have HV5 := Lib.hid (show V = 15 by rw [HV4.out, if_pos g3])
              go_wp2_with (refine shl_load1 HH.out rfl rfl rfl 2 rfl rfl (by decide +kernel) ?_)
              go_ret
              exact ⟨retI HV5.out.symm, HH.out.ext⟩
            · have HV5 := Lib.hid (show V = 0 by rw [HV4.out, if_neg g3])
              go_wp2_with (refine shl_load1 HH.out rfl rfl rfl 2 rfl rfl (by decide +kernel) ?_)
              go_ret
              exact ⟨retI HV5.out.symm, HH.out.ext⟩
        · have HV4 := Lib.hid (show V = 5 by rw [HV3.out, if_pos (.inl g1)])
          have gb : (we != 0) = true := by simpa using g1
          go_wp2_with fail
          go_ret
          exact ⟨retI HV4.out.symm, HH.out.ext⟩
  · rw [h3] at HLo
    have HV2 := Lib.hid (show V = 5 by rw [HV.out, if_neg (by rw [← Hn.out]; exact h1), if_neg (by rw [h2]; decide), if_pos h3])
    go_enter Tryz.func52, Tryz.ntmps52
    go_upto_region 1 with fail
    generalize hwH : World.alloc w _ = w1; have HH := Lib.hid (Heap.one hwH); clear hwH
    go_wp2_with (first | (go_at_call 41; (with_reducible refine (HRi.out _ HH.out.ext).mono ?_); rintro e wC ⟨rfl, eC⟩; have HHn := Lib.hid (HH.out.later eC); clear HH eC; have HH := HHn; clear HHn) | (go_at_call 42; (with_reducible refine (HLo.out _ HH.out.ext).mono ?_); rintro e wC ⟨rfl, eC⟩; have HHn := Lib.hid (HH.out.later eC); clear HH eC; have HH := HHn; clear HHn))
    go_ret
    exact ⟨retI HV2.out.symm, HH.out.ext⟩
end Go.Proofs.YtfongpdeflfioaaGreat
/- slices.Chunk over octets: its iterator's rounds are the parts, in order. -/
namespace Go.Proofs.YtfongpdeflfioaaGreat
open Go.RowKit Go.Shelf
set_option linter.unusedVariables false
set_option linter.unusedSimpArgs false
attribute [local go_sem] Oper.semAt_some

/-- part number k of a slice of n in parts of m -/
def chV (A : Option Addr) (m n k : Nat) : Value := .slice (A.map (·.add (k * m))) (min m (n - k * m)) (min m (n - k * m))
/-- how many parts -/
def chN (m n : Nat) : Nat := (n + m - 1) / m
theorem chN_lt {m n k : Nat} (hm : 1 ≤ m) : k < chN m n ↔ k * m < n := by
  unfold chN
  rw [Nat.lt_div_iff_mul_lt hm]
  omega
theorem run_slice3 {P : Program} (w : World) (t e : TypeId) (inf : TypeInfo) (ht : P.underlying t = some (.slice e)) (hi : P.info? e = some inf) (hs : inf.size = 1) (A : Option Addr) (n c i j : Nat) (I J : Int) (hI : I = (i : Int)) (hJ : J = (j : Int)) (hij : i < j) (hj : j ≤ c) :
    (Instr.slice t (.slice A n c) (some (.int .i64 I)) (some (.int .i64 J)) (some (.int .i64 J))).run P w = .ok (.slice (A.map (·.add i)) (j - i) (j - i)) w := by
  subst hI
  subst hJ
  have hb : (Instr.sliceBounds true n c (some (.int .i64 (i : Int))) (some (.int .i64 (j : Int))) (some (.int .i64 (j : Int)))).run P w = .ok (i, j, j) w := by
    simp [Instr.sliceBounds, run_sliceBound (P := P) w .i64 (j : Int) c .slice3Acap (by omega) (by omega), run_sliceBound (P := P) w .i64 (j : Int) j .slice3B (by omega) (by omega), run_sliceBound (P := P) w .i64 (i : Int) j .slice3C (by omega) (by omega)]
  have hne : ¬ j = i := by omega
  simp [Instr.slice, run_underlying ht, hb, sizeOf, typeInfo, hi, hs, hne]

set_option maxRecDepth 100000 in
set_option maxHeartbeats 4000000 in
theorem chunk1_any (l bs bm : Nat) (A : Option Addr) (n c m : Nat) (hm : 1 ≤ m) (hM : m ≤ 1000000) (hN : n ≤ 100000000000) (hnc : n ≤ c) (J : List Nat → World → Prop)
    (hJ : ∀ pre W, J pre W → W.cell? ⟨bs, 0, none⟩ = some (.slice A n c) ∧ W.cell? ⟨bm, 0, none⟩ = some (.int .i64 (m : Int)))
    (hJd : ∀ pre W, J pre W → J pre W.drew)
    (hY : ∀ pre x W1, J pre W1 → pre.length < chN m n → x = pre.length → YieldAt Fence.wide 0 Tryz.prog l #[chV A m n x] W1 fun e W' => e = .returned (.bool true) ∧ J (pre ++ [x]) W')
    (W : World) (h0 : J [] W) :
    Calls Tryz.prog 112 #[.func (.yield l) #[] #[], .pointer (some ⟨bs, 0, none⟩), .pointer (some ⟨bm, 0, none⟩)] W fun e W' => (∃ v, e = .returned v) ∧ ∃ xs, xs = List.range (chN m n) ∧ J xs W' := by
  obtain ⟨i0, hi0, hz0, hz1, hz2⟩ := info_parts info5
  have HY := Lib.hid hY
  have HJ := Lib.hid hJ
  have HD := Lib.hid hJd
  clear hY hJ hJd
  refine (callsIn_wide (n := 1)).1 (callsIn_of_wp Tryz.func112 rfl trivial ?_ rfl)
  simp only [Tryz.ntmps112, List.size_toArray, List.length_cons, List.length_nil, Nat.reduceAdd, Nat.reduceSub, Array.replicate_succ, Array.replicate_zero, List.push_toArray, List.append_toArray, List.nil_append, List.cons_append]
  gi_wp2
  gi_loopw [4] (fun i wr => ∃ k : Nat, k ≤ chN m n ∧ i = .int .i64 ((k * m : Nat) : Int) ∧ J (List.range k) wr) (fun i _ => (chN m n) * m - (intOf i).toNat)
  case atStart => exact ⟨0, Nat.zero_le _, by simp, h0⟩
  case round =>
    obtain ⟨k, hk, rfl, hJs⟩ := hrel
    obtain ⟨c1, c2⟩ := HJ.out _ _ hJs
    by_cases hlt : k < chN m n
    · have hlt2 := (chN_lt (n := n) hm).1 hlt
      obtain ⟨fn, tmps, assign, body, hy, hR⟩ := HY.out _ k wr.drew (HD.out _ _ hJs) (by simpa using hlt) (by simp)
      have hs1 := fun W => run_slice_from (P := Tryz.prog) W 33 5 i0 1 Tryz.underlying33 hi0 hz1 A n c (k * m) _ rfl (by omega)
      have hmin := Lib.hid (show (if n - k * m < m then ((n - k * m : Nat) : Int) else (m : Int)) = ((min m (n - k * m) : Nat) : Int) by
        split <;> omega)
      have hminb := Lib.hid (show min (m : Int) ((n - k * m : Nat) : Int) = ((min m (n - k * m) : Nat) : Int) by omega)
      simp only [chV] at hy
      have hq1 : 1 ≤ min m (n - k * m) := by omega
      have hq2 : min m (n - k * m) ≤ n - k * m := Nat.min_le_right _ _
      have hq3 : min m (n - k * m) ≤ m := Nat.min_le_left _ _
      have hle : k * m + m ≤ chN m n * m := by
        have : (k + 1) * m ≤ chN m n * m := Nat.mul_le_mul_right _ hlt
        rw [Nat.succ_mul] at this
        exact this
      have hchN : chN m n * m ≤ n + m := by
        have h1 := Nat.div_mul_le_self (n + m - 1) m
        show (n + m - 1) / m * m ≤ n + m
        omega
      gi_wp2
      gi_region
      (try simp only [hmin.out])
      (try simp only [hminb.out])
      generalize hq : min m (n - k * m) = q at *
      clear hmin hminb hq hs1
      have hs3 := fun W => run_slice3 (P := Tryz.prog) W 33 5 i0 Tryz.underlying33 hi0 hz1 A n c (k * m) (k * m + q) ((k * m : Nat) : Int) (((k * m : Nat) : Int) + (q : Int)) rfl (by omega) (by omega) (by omega)
      rw [show k * m + q - k * m = q by omega] at hs3
      generalize hkm : k * m = km at *
      have c1' : wr.drew.cell? { block := bs, off := 0 } = some (Value.slice A n c) := c1
      have c2' : wr.drew.cell? { block := bm, off := 0 } = some (Value.int IntKind.i64 ↑m) := c2
      gi_wp2
      refine hR.mono ?_
      rintro e W3 ⟨rfl, hJ3⟩
      obtain ⟨d1, d2⟩ := HJ.out _ _ hJ3
      gi_wp2
      go_roundw
      case rel => exact ⟨k + 1, by omega, by rw [← hkm]; congr 1; rw [Nat.succ_mul]; omega, by rw [List.range_succ]; exact hJ3⟩
      case measure => simp [intOf]; omega
    · obtain rfl : k = chN m n := by omega
      have hge : n ≤ chN m n * m := by
        rcases Nat.lt_or_ge (chN m n * m) n with h | h
        · exact absurd ((chN_lt hm).2 h) (by omega)
        · exact h
      gi_wp2
      go_end0
      exact ⟨⟨_, rfl⟩, _, rfl, hJs⟩

set_option maxRecDepth 100000 in
set_option maxHeartbeats 1000000 in
theorem chunk_any (w : World) (A : Option Addr) (n c m : Nat) (hm : 1 ≤ m) (hM : m ≤ 1000000) :
    Calls Tryz.prog 76 #[.slice A n c, .int .i64 (m : Int)] w fun e w' => e = .returned (.func (.func 112) #[] #[.pointer (some ⟨w.heap.size, 0, none⟩), .pointer (some ⟨w.heap.size + 1, 0, none⟩)]) ∧ w' = (w.alloc (.cells #[.slice A n c] 33)).alloc (.cells #[.int .i64 (m : Int)] 3) := by
  go_enter Tryz.func76, Tryz.ntmps76
  go_wp2_with fail
  go_ret
  exact ⟨rfl, rfl⟩
/-- the rounds of slices.Chunk, as rangeH asks for them -/
theorem chunk_seq {w0 w : World} {R : List Nat → List It → Prop} {A : Option Addr} {n c m bs bm : Nat} (hm : 1 ≤ m) (hM : m ≤ 1000000) (hN : n ≤ 100000000000) (hnc : n ≤ c)
    (hcells : ∀ pre L, R pre L → ∀ W x y, Heap w0 (x :: y :: L) W → W.cell? ⟨bs, 0, none⟩ = some (.slice A n c) ∧ W.cell? ⟨bm, 0, none⟩ = some (.int .i64 (m : Int))) :
    ∀ (l : Nat) (J : List Nat → World → Prop) (W : World), Ext w W → (∀ pre W, J pre W → ∃ x y L, R pre L ∧ Heap w0 (x :: y :: L) W) → (∀ pre W, J pre W → J pre W.drew) → (false = true → AbidesFrom W.heap.size J) →
      (∀ pre x W1, J pre W1 → pre.length < chN m n → x = pre.length → YieldAt Fence.wide 0 Tryz.prog l #[chV A m n x] W1 fun e W' => e = .returned (.bool true) ∧ J (pre ++ [x]) W' ∧ (false = true → KeepW w0.heap.size W.heap.size W1 W')) → J [] W →
      Calls Tryz.prog 112 (#[.func (.yield l) #[] #[]] ++ #[.pointer (some ⟨bs, 0, none⟩), .pointer (some ⟨bm, 0, none⟩)]) W fun e W' => (∃ v, e = .returned v) ∧ ∃ xs, xs = List.range (chN m n) ∧ J xs W' :=
  fun l J W _ hJ hJd _ hY h0 => chunk1_any l bs bm A n c m hm hM hN hnc J (fun pre W h => by
    obtain ⟨x, y, L, hL, H⟩ := hJ pre W h
    exact hcells pre L hL W x y H) hJd (fun pre x W1 h1 h2 h3 => (hY pre x W1 h1 h2 h3).mono fun e W' h => ⟨h.1, h.2.1⟩) W h0
end Go.Proofs.YtfongpdeflfioaaGreat
/- slices.Clone over octets. -/
namespace Go.Proofs.YtfongpdeflfioaaGreat
open Go.RowKit

/-- an octet slice of the call's own: it reads, and it may be written -/
structure Oct.Own (w : World) (lo : Nat) (s : Oct) : Prop where
  at_ : Oct.At w lo w.heap.size s
  wr : Wr w lo w.heap.size s.A (bytes s.xs)
theorem oct_own {w : World} {base n : Nat} {v : Value} {l : List UInt8} (h : w.ownsRow base 5 1 v n (bytes l)) (hn : n = l.length) : ∃ s : Oct, v = s.val ∧ s.xs = l ∧ Oct.Own w base s := by
  obtain ⟨A, c, rfl, h1, h2, _⟩ := own_form h
  exact ⟨⟨A, n, c, l⟩, rfl, rfl, ⟨⟨hn, h1, h2, by rw [octs_flat]; exact Rd.of_own h, fun _ _ => trivial⟩, Wr.of_own h⟩⟩
theorem clone_any (s : Oct) (w : World) (h : Oct.At w 0 w.heap.size s) (hb : s.n ≤ 150000000000000) :
    Calls Tryz.prog 56 #[s.val] w fun e w' => ∃ s' : Oct, e = .returned s'.val ∧ s'.xs = s.xs ∧ Oct.Own w' w.heap.size s' ∧ Ext w w' :=
  (cloneb_any w w.heap.size (Nat.le_refl _) s.A s.n s.c s.xs h.len (Oct.At.rdb h) hb).mono fun e w' ⟨v, he, ho, hx⟩ => by
    obtain ⟨s', rfl, h2, h3⟩ := oct_own ho h.len
    exact ⟨s', he, h2, h3, hx⟩

section
variable {w w' : World} {lo hi : Nat} {A : Option Addr} {cs : List Value}
theorem Wr.ext (h : Wr w lo hi A cs) (e : Ext w w') (hh : hi ≤ w.heap.size) : Wr w' lo w'.heap.size A cs := fun hn => by
  obtain ⟨b, o, h1, h2, h3, h4⟩ := h hn
  have hb : b < w.heap.size := Nat.lt_of_lt_of_le h3 hh
  exact ⟨b, o, h1, h2, Nat.lt_of_lt_of_le hb e.size, fun j u hu => ⟨(Below.cell (p := ⟨b, o + j, none⟩) e hb).trans (h4 j u hu).1, (Below.frozen (p := ⟨b, o + j, none⟩) e hb).trans (h4 j u hu).2⟩⟩
theorem Wr.new (w : World) (cs : Array Value) (t : TypeId) : Wr (w.alloc (.cells cs t)) w.heap.size (w.heap.size + 1) (some ⟨w.heap.size, 0, none⟩) cs.toList := fun _ =>
  ⟨_, _, rfl, Nat.le_refl _, Nat.lt_succ_self _, fun j u hu => ⟨by rw [Nat.zero_add]; exact cell_new w cs t j (by simpa using hu), by
    have := heap_alloc_new w (.cells cs t)
    unfold World.frozen?
    rw [this]
    simp⟩⟩
theorem Wr.more {lo' hi' : Nat} (h : Wr w lo hi A cs) (hl : lo' ≤ lo) (hh : hi ≤ hi') : Wr w lo' hi' A cs := fun hn => by
  obtain ⟨b, o, h1, h2, h3, h4⟩ := h hn
  exact ⟨b, o, h1, by omega, by omega, h4⟩
theorem Wr.set {b o : Nat} (h : Wr w lo hi (some ⟨b, o, none⟩) cs) {k : Nat} (hk : k < cs.length) (v : Value) : Wr (w.setCell ⟨b, o + k, none⟩ v) lo hi (some ⟨b, o, none⟩) (cs.set k v) := fun _ => by
  obtain ⟨b', o', he, h2, h3, h4⟩ := h (fun e => by simp [e] at hk)
  obtain ⟨rfl, rfl⟩ : b = b' ∧ o = o' := by simpa using he
  refine ⟨b, o, rfl, h2, h3, fun j u hu => ⟨?_, ?_⟩⟩
  · by_cases hj : k = j
    · subst hj
      rw [List.getElem?_set_self hk] at hu
      cases hu
      exact World.cell?_setCell_same w _ _ (h4 k _ (List.getElem?_eq_getElem hk)).1
    · rw [List.getElem?_set_ne hj] at hu
      exact (World.cell?_setCell_other w _ _ _ (fun e => by injection e with _ e2; omega)).trans (h4 j u hu).1
  · rw [World.frozen?_setCell]
    have hjl : j < cs.length := by
      have := (List.getElem?_eq_some_iff.1 hu).1
      simpa using this
    exact (h4 j _ (List.getElem?_eq_getElem hjl)).2
/-- a store elsewhere -/
theorem Wr.else_ {b o : Nat} (h : Wr w lo hi (some ⟨b, o, none⟩) cs) {p : Addr} (hp : p.block ≠ b) (v : Value) : Wr (w.setCell p v) lo hi (some ⟨b, o, none⟩) cs := fun hn => by
  obtain ⟨b', o', he, h2, h3, h4⟩ := h hn
  obtain ⟨rfl, rfl⟩ : b = b' ∧ o = o' := by simpa using he
  exact ⟨b, o, rfl, h2, h3, fun j u hu => ⟨(World.cell?_setCell_other w p _ v (fun e => hp (by rw [e]))).trans (h4 j u hu).1, by rw [World.frozen?_setCell]; exact (h4 j u hu).2⟩⟩
theorem Wr.drew (h : Wr w lo hi A cs) : Wr w.drew lo hi A cs := h
theorem Wr.cell {b o : Nat} (h : Wr w lo hi (some ⟨b, o, none⟩) cs) {k : Nat} {u : Value} (hk : cs[k]? = some u) : w.cell? ⟨b, o + k, none⟩ = some u ∧ w.frozen? ⟨b, o + k, none⟩ = false := by
  obtain ⟨b', o', he, h2, h3, h4⟩ := h (fun e => by simp [e] at hk)
  obtain ⟨rfl, rfl⟩ : b = b' ∧ o = o' := by simpa using he
  exact h4 k u hk
end
def nilv : Value := .slice none 0 0
def zeros (n : Nat) : List UInt8 := List.replicate n 0
theorem zeros_eqC (m : Nat) : madeCells (Value.int .u8 0).cells m = (bytes (List.replicate m 0)).toArray := by
  apply Array.toList_inj.1
  show (madeCells #[Value.int .u8 0] m).toList = _
  rw [toList_madeCells_one]
  simp [bytes]
theorem mk_bytesC (m : Nat) (hm : m ≤ 140737488355328) (u : World) : (Instr.makeSlice 33 (.int .i64 (m : Int)) (.int .i64 (m : Int))).run Tryz.prog u = .ok (.slice (some ⟨u.heap.size, 0, none⟩) m m) (u.alloc (.cells (bytes (zeros m)).toArray 5)) := by
  obtain ⟨i0, hi0, hz0, hz1, hz2⟩ := info_parts info5
  have h := run_make (P := Tryz.prog) u 33 5 i0 _ Tryz.underlying33 hi0 hz0 .i64 .i64 m m (by omega) (by omega) (by rw [hz2]; omega) (by omega)
  rw [hz1, Int.toNat_natCast, Nat.mul_one, zeros_eqC] at h
  exact h
theorem infoS : (Tryz.prog.info? 33).map (fun i => (i.zero, i.size, i.bytes)) = some (some (.slice none 0 0), 1, 24) := by kernel_rfl
theorem mk_rows (m : Nat) (hm : m ≤ 1000000000) (u : World) : (Instr.makeSlice 22 (.int .i64 (m : Int)) (.int .i64 (m : Int))).run Tryz.prog u = .ok (.slice (some ⟨u.heap.size, 0, none⟩) m m) (u.alloc (.cells (List.replicate m nilv).toArray 33)) := by
  obtain ⟨i0, hi0, hz0, hz1, hz2⟩ := info_parts infoS
  have h := run_make (P := Tryz.prog) u 22 33 i0 _ Tryz.underlying22 hi0 hz0 .i64 .i64 m m (by omega) (by omega) (by rw [hz2]; omega) (by omega)
  rw [hz1, Int.toNat_natCast, Nat.mul_one, show madeCells (Value.slice none 0 0).cells m = (List.replicate m nilv).toArray by
    apply Array.toList_inj.1
    show (madeCells #[Value.slice none 0 0] m).toList = _
    rw [toList_madeCells_one]
    rfl] at h
  exact h
end Go.Proofs.YtfongpdeflfioaaGreat
/- device.New. -/
namespace Go.Proofs.YtfongpdeflfioaaGreat
open Go.RowKit
set_option linter.unusedSimpArgs false

theorem new_no (w : World) (n : Int) (h : n < 2 ∨ 8192 < n) :
    Calls Tryz.prog 94 #[.int .i64 n] w fun e w' => e = .returned (.tuple #[.agg #[.slice none 0 0, .slice none 0 0], .int .i64 4]) ∧ Ext w w' := by
  have hcase : n < 2 ∨ (2 ≤ n ∧ 8192 < n) := by omega
  clear h
  rcases hcase with q0 | ⟨q0, q1⟩
  all_goals
    go_enter Tryz.func94, Tryz.ntmps94
    go_wp2_with fail
    refine bodyPost_ret (v := .tuple #[.agg #[.slice none 0 0, .slice none 0 0], .int .i64 4]) (by simp [results, Tryz.results94, go_sem]) rfl ⟨rfl, by (repeat (first | exact Below.refl _ _ | exact Ext.refl _ | assumption | refine Below.drew ?_ | refine below_drewN ?_ _ | refine below_alloc ?_ (by first | exact Nat.le_refl _ | assumption | (simp; done) | omega | (simp; omega)) _ | refine below_ext ?_ (by assumption) (by first | exact Nat.le_refl _ | assumption | (simp; done) | omega | (simp; omega)) | refine Ext.drew ?_ | refine Ext.drewN ?_ _ | refine Ext.alloc ?_ _ | refine Ext.setCell ?_ (by first | assumption | (simp; done) | (simp; omega)) _ | refine Below.setCell ?_ (by first | assumption | (simp; done) | (simp; omega)) _ | refine Ext.trans ?_ (by assumption)))⟩
theorem set_mid {α : Type} (l : List α) (x v : α) (r : List α) : (l ++ x :: r).set l.length v = l ++ v :: r := by
  rw [List.set_append_right _ _ (Nat.le_refl _), Nat.sub_self]
  rfl
set_option maxHeartbeats 1000000 in
theorem new_yes (w : World) (n : Nat) (h0 : 2 ≤ n) (h1 : n ≤ 8192) :
    Calls Tryz.prog 94 #[.int .i64 n] w fun e w' => (∃ d : Dev, e = .returned (.tuple #[.agg d.cells.toArray, .int .i64 0]) ∧ d.secs.xs.map (·.xs) = List.replicate n (zeros 64) ∧ d.waits = ⟨none, 0, 0, []⟩ ∧ Dev.At w' w.heap.size w'.heap.size d) ∧ Ext w w' := by
  have p0 : (2 : Int) ≤ n := by omega
  have p1 : (n : Int) ≤ 8192 := by omega
  have k1 := mk_rows n (by omega)
  have k2 : ∀ u, (Instr.makeSlice 33 (.int .i64 64) (.int .i64 64)).run Tryz.prog u = .ok (.slice (some ⟨u.heap.size, 0, none⟩) 64 64) (u.alloc (.cells (bytes (zeros 64)).toArray 5)) := fun u => mk_bytesC 64 (by omega) u
  go_enter Tryz.func94, Tryz.ntmps94
  go_wp2_with fail
  go_loopw [19] (fun i wr => ∃ (k : Nat) (ss : List Oct), k ≤ n ∧ i = .int .i64 k ∧ Hid (ss.length = k) ∧ Hid (∀ s ∈ ss, s.xs = zeros 64) ∧ Hid (Wr wr 0 wr.heap.size (some ⟨w.heap.size + 1, 0, none⟩) (ss.map Sl.val ++ List.replicate (n - k) nilv)) ∧
      Hid (∀ s ∈ ss, Oct.At wr (w.heap.size + 3) wr.heap.size s) ∧ wr.cell? ⟨w.heap.size + 2, 0, none⟩ = some (.slice (some ⟨w.heap.size + 1, 0, none⟩) n n) ∧ wr.cell? ⟨w.heap.size + 2, 1, none⟩ = some (.slice none 0 0) ∧
      wr.cell? ⟨w.heap.size, 0, none⟩ = some (.slice none 0 0) ∧ wr.cell? ⟨w.heap.size, 1, none⟩ = some (.slice none 0 0) ∧ wr.frozen? ⟨w.heap.size, 0, none⟩ = false ∧ wr.frozen? ⟨w.heap.size, 1, none⟩ = false ∧ Ext w wr ∧ w.heap.size + 2 < wr.heap.size) (fun i _ => n - (intOf i).toNat)
  case atStart =>
    refine ⟨0, [], Nat.zero_le _, rfl, Lib.hid rfl, Lib.hid (by simp), Lib.hid ?_, Lib.hid (by simp), by go_simp, by go_simp, by go_simp, by go_simp, by go_simp, by go_simp, by (repeat (first | exact Below.refl _ _ | exact Ext.refl _ | assumption | refine Below.drew ?_ | refine below_drewN ?_ _ | refine below_alloc ?_ (by first | exact Nat.le_refl _ | assumption | (simp; done) | omega | (simp; omega)) _ | refine below_ext ?_ (by assumption) (by first | exact Nat.le_refl _ | assumption | (simp; done) | omega | (simp; omega)) | refine Ext.drew ?_ | refine Ext.drewN ?_ _ | refine Ext.alloc ?_ _ | refine Ext.setCell ?_ (by first | assumption | (simp; done) | (simp; omega)) _ | refine Below.setCell ?_ (by first | assumption | (simp; done) | (simp; omega)) _ | refine Ext.trans ?_ (by assumption))), by simp⟩
    have := Wr.new (w.alloc (.cells #[.slice none 0 0, .slice none 0 0] 25)) (List.replicate n nilv).toArray 33
    have := (this.ext ((Ext.refl _).alloc (.cells #[.slice (some ⟨w.heap.size + 1, 0, none⟩) n n, .slice none 0 0] 25)) (by simp)).more (Nat.zero_le 0 |> fun _ => Nat.zero_le _) (Nat.le_refl _)
    simpa using this
  case round =>
    obtain ⟨k, ss, hk, rfl, HL, HZ, HW, HA, c0, c1, c2, c3, f2, f3, e1, z1⟩ := hrel
    by_cases hlt : k < n
    · obtain ⟨g0, gf⟩ := HW.out.cell (k := k) (u := nilv) (by rw [List.getElem?_append_right (by simp [HL.out]), List.length_map, HL.out, Nat.sub_self, List.getElem?_replicate, if_pos (by omega)])
      rw [Nat.zero_add] at g0 gf
      have q0 : (0 : Int) ≤ k := by omega
      have q1 : (k : Int) < n := by omega
      have z0 : w.heap.size + 1 < wr.heap.size := by omega
      have z2 : w.heap.size < wr.heap.size := by omega
      go_wp2_with fail
      go_region
      go_wp2_with fail
      go_roundw
      case rel =>
        refine ⟨k + 1, ss ++ [⟨some ⟨wr.heap.size, 0, none⟩, 64, 64, zeros 64⟩], by omega, by go_num, Lib.hid (by rw [List.length_append, HL.out]; rfl), Lib.hid ?_, Lib.hid ?_, Lib.hid ?_, by go_simp, by go_simp, by go_simp, by go_simp, by go_simp, by go_simp, by (repeat (first | exact Below.refl _ _ | exact Ext.refl _ | assumption | refine Below.drew ?_ | refine below_drewN ?_ _ | refine below_alloc ?_ (by first | exact Nat.le_refl _ | assumption | (simp; done) | omega | (simp; omega)) _ | refine below_ext ?_ (by assumption) (by first | exact Nat.le_refl _ | assumption | (simp; done) | omega | (simp; omega)) | refine Ext.drew ?_ | refine Ext.drewN ?_ _ | refine Ext.alloc ?_ _ | refine Ext.setCell ?_ (by first | assumption | (simp; done) | (simp; omega)) _ | refine Below.setCell ?_ (by first | assumption | (simp; done) | (simp; omega)) _ | refine Ext.trans ?_ (by assumption))), by simp; omega⟩
        · intro s hs
          rcases List.mem_append.1 hs with h | h
          · exact HZ.out s h
          · simp only [List.mem_singleton] at h; subst h; rfl
        · have h1 := HW.out.set (k := k) (by rw [List.length_append, List.length_map, HL.out, List.length_replicate]; omega) (.slice (some ⟨wr.heap.size, 0, none⟩) 64 64)
          rw [Nat.zero_add, show n - k = (n - (k + 1)) + 1 by omega, List.replicate_succ, ← HL.out, ← List.length_map (f := Sl.val), set_mid] at h1
          have h2 := (h1.ext (((Ext.refl _).alloc (.cells (bytes (zeros 64)).toArray 5)).drew) (by simp))
          rw [List.length_map, HL.out] at h2
          simpa [Sl.val, List.map_append] using h2
        · intro s hs
          rcases List.mem_append.1 hs with h | h
          · refine Oct.At.imp (HA.out s h) fun A cs hr => ?_
            exact rd_on (((Ext.refl _).alloc (.cells (bytes (zeros 64)).toArray 5)).drew) (by simp) A cs (hr.setCell_low (by show w.heap.size + 1 < w.heap.size + 3; omega) _)
          · simp only [List.mem_singleton] at h
            subst h
            refine ⟨by simp [zeros], Nat.le_refl _, by simp [maxLen], ?_, fun _ _ => trivial⟩
            have h3 := rd_new (wr.setCell ⟨w.heap.size + 1, k, none⟩ (.slice (some ⟨wr.heap.size, 0, none⟩) 64 64)) (bytes (zeros 64)).toArray 5
            rw [octs_flat]
            simpa using (h3.more (lo' := w.heap.size + 3) (by simp; omega) (Nat.le_refl _)).drew
      case measure => simp [intOf]; omega
    · obtain rfl : k = n := by omega
      have hA := Lib.hid (show Dev.At wr (w.heap.size + 1) wr.heap.size ⟨⟨some ⟨w.heap.size + 1, 0, none⟩, k, k, ss⟩, ⟨none, 0, 0, []⟩⟩ from
        ⟨⟨HL.out.symm, Nat.le_refl _, by simp [maxLen]; omega, by
          have h1 := HW.out.rd
          rw [Nat.sub_self, List.replicate_zero, List.append_nil] at h1
          have h2 : ss.flatMap octv = ss.map Sl.val := by
            clear h1 HL HZ HW HA
            induction ss with
            | nil => rfl
            | cons s ss ih => rw [List.flatMap_cons, ih]; rfl
          show Rd wr (w.heap.size + 1) wr.heap.size (some ⟨w.heap.size + 1, 0, none⟩) (ss.flatMap octv)
          rw [h2]
          intro hne
          obtain ⟨b, o, e, _, l2, l3⟩ := h1 hne
          obtain ⟨rfl, rfl⟩ : w.heap.size + 1 = b ∧ 0 = o := by simpa using e
          exact ⟨_, _, rfl, by omega, l2, l3⟩, fun s hs => Oct.At.low (HA.out s hs) (by omega)⟩, ⟨rfl, Nat.le_refl _, Nat.zero_le _, Rd.nil, fun _ h => by simp at h⟩⟩)
      have hM := Lib.hid (show ss.map (·.xs) = List.replicate k (zeros 64) from List.eq_replicate_iff.2 ⟨by rw [List.length_map, HL.out], fun b hb => by
        obtain ⟨s, hs, rfl⟩ := List.mem_map.1 hb
        exact HZ.out s hs⟩)
      have z0 : w.heap.size + 1 < wr.heap.size := by omega
      have z2 : w.heap.size < wr.heap.size := by omega
      go_wp2_with fail
      refine bodyPost_ret (v := .tuple #[.agg #[.slice (some ⟨w.heap.size + 1, 0, none⟩) k k, .slice none 0 0], .int .i64 0]) (by simp [results, Tryz.results94, go_sem, *]) rfl ⟨⟨⟨⟨some ⟨w.heap.size + 1, 0, none⟩, k, k, ss⟩, ⟨none, 0, 0, []⟩⟩, rfl, hM.out, rfl, ?_⟩, by (repeat (first | exact Below.refl _ _ | exact Ext.refl _ | assumption | refine Below.drew ?_ | refine below_drewN ?_ _ | refine below_alloc ?_ (by first | exact Nat.le_refl _ | assumption | (simp; done) | omega | (simp; omega)) _ | refine below_ext ?_ (by assumption) (by first | exact Nat.le_refl _ | assumption | (simp; done) | omega | (simp; omega)) | refine Ext.drew ?_ | refine Ext.drewN ?_ _ | refine Ext.alloc ?_ _ | refine Ext.setCell ?_ (by first | assumption | (simp; done) | (simp; omega)) _ | refine Below.setCell ?_ (by first | assumption | (simp; done) | (simp; omega)) _ | refine Ext.trans ?_ (by assumption)))⟩
      refine hA.out.imp fun A cs h => ?_
      simpa using ((h.setCell_low (p := ⟨w.heap.size, 0, none⟩) (by show w.heap.size < w.heap.size + 1; omega) (.slice (some ⟨w.heap.size + 1, 0, none⟩) k k)).setCell_low (p := ⟨w.heap.size, 1, none⟩) (by show w.heap.size < w.heap.size + 1; omega) (.slice none 0 0)).more (Nat.le_succ _) (Nat.le_refl _)
end Go.Proofs.YtfongpdeflfioaaGreat
