/- The texts Hld, Itm, Cns in one file. -/
import Derived.Test.YtfongpdeflfioaaGreatS20
import Derived.Test.YtfongpdeflfioaaGreatS16
import Derived.Test.YtfongpdeflfioaaGreatS11
import Derived.Test.YtfongpdeflfioaaGreatS12
import Derived.RecoverIn
import Derived.RangeFuncLeaves
import Derived.Test.YtfongpdeflfioaaGreatS13
import Derived.Test.YtfongpdeflfioaaGreatS4
/- What a device that holds a store gives to store.Open: its chain, its objects' pages. -/
namespace Go.Proofs.YtfongpdeflfioaaGreat
open Go.RowKit Go.Maps Go.Sort Go.Shelf
set_option linter.unusedVariables false
set_option linter.unusedSimpArgs false
def natL (l : List Int) : List Nat := l.map Int.toNat
theorem natL_back {l : List Int} (h : ∀ y ∈ l, 0 ≤ y) : (natL l).map Int.ofNat = l := by
  rw [natL, List.map_map]
  conv => rhs; rw [← List.map_id l]
  exact List.map_congr_left fun y hy => by
    have := h y hy
    show ((y.toNat : Nat) : Int) = y
    omega
theorem natL_nodup {l : List Int} (h : ∀ y ∈ l, 0 ≤ y) (hn : l.Nodup) : (natL l).Nodup := by
  rw [natL, List.nodup_iff_pairwise_ne, List.pairwise_map]
  rw [List.nodup_iff_pairwise_ne] at hn
  refine List.Pairwise.imp_of_mem (fun {x y} hx hy hxy => ?_) hn
  have := h x hx
  have := h y hy
  omega
def prevL (O : List ObS) (k : Nat) : List Nat := (O.take k).flatMap fun o => natL o.2.2
theorem prevL_succ (O : List ObS) (k : Nat) (h : k < O.length) : prevL O (k + 1) = prevL O k ++ natL O[k].2.2 := by
  rw [prevL, List.take_succ_eq_append_getElem h, List.flatMap_append]; simp [prevL]
structure ObjOn (sx : List Oct) (L : List Int) (o : ObS) : Prop where
  fit : o.2.1.length ≤ 65536
  len : (natL o.2.2).length = cntP o.2.1.length
  lo : ∀ q ∈ natL o.2.2, 2 ≤ q ∧ q < sx.length ∧ (q : Int) ∉ L
  nd : (natL o.2.2).Nodup
  pages : ∀ i (h : i < (natL o.2.2).length) (hs : (natL o.2.2)[i] < sx.length), (sx[(natL o.2.2)[i]]).xs = pgB (partO o.2.1 i) 0
  back : (natL o.2.2).map Int.ofNat = o.2.2
theorem sec_at {sx : List Oct} {S : List (List UInt8)} (hS : sx.map (fun o => o.xs) = S) {k : Nat} {b : List UInt8} (h : S[k]? = some b) (hs : k < sx.length) : (sx[k]).xs = b := by
  rw [← hS, List.getElem?_map, List.getElem?_eq_getElem hs] at h
  exact Option.some.inj h
theorem flatten_parts (b : List UInt8) (n : Nat) : ((List.range n).map (partO b)).flatten = b.take (n * 52) := by
  induction n with
  | zero => simp
  | succ n ih => rw [List.range_succ, List.map_append, List.flatten_append, ih, take_part]; simp
theorem holds_obj {a : Abs} (ha : a.holds) {sx : List Oct} (hS : sx.map (fun o => o.xs) = a.S) (k : Nat) (hk : k < a.O.length) : ObjOn sx (metL [] (natL a.X ++ prevL a.O k)) a.O[k] := by
  have hm : a.O[k] ∈ a.O := List.getElem_mem hk
  have hln : a.S.length = sx.length := by rw [← hS, List.length_map]
  have hfit := ha.ok.fit _ hm
  have hO : a.O = a.O.take k ++ (a.O[k] :: a.O.drop (k + 1)) := by rw [List.getElem_cons_drop, List.take_append_drop]
  have hU : a.used = (a.X ++ (a.O.take k).flatMap fun o => o.2.2) ++ (a.O[k].2.2 ++ (a.O.drop (k + 1)).flatMap fun o => o.2.2) := by
    rw [Abs.used]
    conv => lhs; rw [hO]
    rw [List.flatMap_append, List.flatMap_cons, List.append_assoc]
  have hlo : ∀ y ∈ a.O[k].2.2, 2 ≤ y ∧ y < (a.S.length : Int) := fun y hy => ha.ok.lo y (by rw [hU]; simp [hy])
  have hnn : ∀ y ∈ a.O[k].2.2, 0 ≤ y := fun y hy => by have := hlo y hy; omega
  have hnd := ha.ok.nd
  rw [hU, List.nodup_append] at hnd
  obtain ⟨_, hnd2, hdis⟩ := hnd
  rw [List.nodup_append] at hnd2
  refine ⟨hfit.1, by rw [natL, List.length_map]; exact hfit.2, fun q hq => ?_, natL_nodup hnn hnd2.1, fun i h hs => ?_, natL_back hnn⟩
  · obtain ⟨y, hy, rfl⟩ := List.mem_map.1 hq
    have h1 := hlo y hy
    refine ⟨by omega, by omega, fun hc => ?_⟩
    rcases mem_metL.1 hc with hc | ⟨z, hz, hc⟩
    · cases hc
    · have hyz : y = (z : Int) := by omega
      refine hdis y ?_ y (List.mem_append_left _ hy) rfl
      rw [hyz]
      rcases List.mem_append.1 hz with hz | hz
      · obtain ⟨v, hv, rfl⟩ := List.mem_map.1 hz
        have h2 := ha.ok.lo v (by rw [hU]; simp [hv])
        exact List.mem_append_left _ (by rw [show ((v.toNat : Nat) : Int) = v by omega]; exact hv)
      · obtain ⟨o, ho, hz⟩ := List.mem_flatMap.1 hz
        obtain ⟨v, hv, rfl⟩ := List.mem_map.1 hz
        have h3 : v ∈ (a.O.take k).flatMap fun o => o.2.2 := List.mem_flatMap.2 ⟨o, ho, hv⟩
        have h2 := ha.ok.lo v (by rw [hU]; exact List.mem_append_left _ (List.mem_append_right _ h3))
        exact List.mem_append_right _ (by rw [show ((v.toNat : Nat) : Int) = v by omega]; exact h3)
  · have hi : i < a.O[k].2.2.length := by rw [natL, List.length_map] at h; exact h
    have e : (natL a.O[k].2.2)[i] = (a.O[k].2.2[i]).toNat := by simp [natL]
    have h1 := ha.objs _ hm i hi
    rw [← e] at h1
    exact sec_at hS h1 hs
theorem holds_chain {a : Abs} (ha : a.holds) {sx : List Oct} (hS : sx.map (fun o => o.xs) = a.S) (hO : a.O ≠ []) : ∃ ps, ChainOn sx [] (natL a.X) ps ∧ ps.flatten = wB (idxS a.O) := by
  have hln : a.S.length = sx.length := by rw [← hS, List.length_map]
  have hU : a.used = a.X ++ a.O.flatMap fun o => o.2.2 := rfl
  have hlo : ∀ y ∈ a.X, 2 ≤ y ∧ y < (a.S.length : Int) := fun y hy => ha.ok.lo y (by rw [hU]; exact List.mem_append_left _ hy)
  have hnn : ∀ y ∈ a.X, 0 ≤ y := fun y hy => by have := hlo y hy; omega
  have hnd := ha.ok.nd
  rw [hU, List.nodup_append] at hnd
  have hxn := ha.ok.xn hO
  refine ⟨(List.range a.X.length).map (partO (wB (idxS a.O))), ⟨by simp [natL], fun q hq => ?_, natL_nodup hnn hnd.1, fun p hp => ?_, fun k hk hs hp => ?_⟩, ?_⟩
  · obtain ⟨y, hy, rfl⟩ := List.mem_map.1 hq
    have h1 := hlo y hy
    exact ⟨by omega, by omega, by simp⟩
  · obtain ⟨i, _, rfl⟩ := List.mem_map.1 hp
    exact partO_len _ _
  · have hi : k < a.X.length := by rw [natL, List.length_map] at hk; exact hk
    have e : (natL a.X)[k] = (a.X[k]).toNat := by simp [natL]
    have h1 := ha.chain k hi
    rw [← e] at h1
    rw [sec_at hS h1 hs]
    have e2 : (((natL a.X).getD (k + 1) 0 : Nat) : Int) = a.X.getD (k + 1) 0 := by
      rw [List.getD_eq_getElem?_getD, List.getD_eq_getElem?_getD, natL, List.getElem?_map]
      rcases Nat.lt_or_ge (k + 1) a.X.length with h | h
      · rw [List.getElem?_eq_getElem h]
        have := hnn _ (List.getElem_mem h)
        show ((a.X[k + 1].toNat : Nat) : Int) = a.X[k + 1]
        omega
      · rw [List.getElem?_eq_none h]; rfl
    rw [e2]
    simp
  · rw [flatten_parts]
    exact List.take_of_length_le (by rw [hxn]; unfold cntP; omega)
theorem sort_len : ∀ (l : List Int) (a b : Int), a ≤ b → SortI l → (∀ y ∈ l, a ≤ y ∧ y < b) → (l.length : Int) ≤ b - a
  | [], a, b, hab, _, _ => by simp; omega
  | x :: l, a, b, hab, hs, hl => by
    obtain ⟨h1, h2⟩ := List.pairwise_cons.1 hs
    have hx := hl x (List.mem_cons_self ..)
    have := sort_len l (x + 1) b (by omega) h2 fun y hy => by
      have := h1 y hy
      have := hl y (List.mem_cons_of_mem _ hy)
      omega
    rw [List.length_cons]
    omega
theorem nodup_len {l : List Int} {a b : Int} (hab : a ≤ b) (hn : l.Nodup) (hl : ∀ y ∈ l, a ≤ y ∧ y < b) : (l.length : Int) ≤ b - a := by
  rw [← uni_of_nodup hn]
  exact sort_len _ _ _ hab (uni_sorted l) fun y hy => hl y ((mem_uni _).1 hy)
theorem used_len {a : Abs} (hk : a.ok) : a.used.length ≤ 8190 := by
  have := hk.n2
  have := hk.n8
  have := nodup_len (by omega) hk.nd hk.lo
  omega
theorem prevL_len (O : List ObS) (k : Nat) : (prevL O k).length ≤ (O.flatMap fun o => o.2.2).length := by
  have e : O = O.take k ++ O.drop k := (List.take_append_drop k O).symm
  conv => rhs; rw [e]
  rw [List.flatMap_append, List.length_append]
  have : (prevL O k).length = ((O.take k).flatMap fun o => o.2.2).length := by
    rw [prevL]
    induction O.take k with
    | nil => rfl
    | cons o l ih => rw [List.flatMap_cons, List.flatMap_cons, List.length_append, List.length_append, ih, natL, List.length_map]
  omega
theorem abs_eq {s : Sto} {a : Abs} (h1 : s.dev.secv = a.S) (h2 : s.ub = a.u) (h3 : s.objs.xs.map strip = a.O) (h4 : s.idx.xs = a.X) : s.abs = a := by
  cases a
  simp only at h1 h2 h3 h4
  rw [Sto.abs, h1, h2, h3, h4]
theorem idxS_len (O : List ObS) : (idxS O).length = 3 * O.length := by
  induction O with
  | nil => rfl
  | cons o O ih => rw [idxS, List.flatMap_cons, List.length_append, show (O.flatMap _).length = _ from ih, List.length_cons]; simp; omega
theorem idxS_at (O : List ObS) (k : Nat) (h : k < O.length) : (idxS O)[k * 3]? = some O[k].1 ∧ (idxS O)[k * 3 + 1]? = some (num8 (O[k].2.1.length : Int)) ∧ (idxS O)[k * 3 + 2]? = some ⟨(numsO O[k].2.2).toArray⟩ := by
  have hO : O = O.take k ++ (O[k] :: O.drop (k + 1)) := by rw [List.getElem_cons_drop, List.take_append_drop]
  have e : idxS O = idxS (O.take k) ++ ([O[k].1, num8 (O[k].2.1.length : Int), ⟨(numsO O[k].2.2).toArray⟩] ++ idxS (O.drop (k + 1))) := by
    conv => lhs; rw [hO]
    rw [idxS, List.flatMap_append, List.flatMap_cons]; rfl
  have hl : (idxS (O.take k)).length = k * 3 := by rw [idxS_len, List.length_take]; omega
  rw [e]
  refine ⟨?_, ?_, ?_⟩
  · rw [List.getElem?_append_right (by omega), hl, Nat.sub_self]; rfl
  · rw [List.getElem?_append_right (by omega), hl, show k * 3 + 1 - k * 3 = 1 by omega]; rfl
  · rw [List.getElem?_append_right (by omega), hl, show k * 3 + 2 - k * 3 = 2 by omega]; rfl
theorem cnt_sum (O : List ObS) (h : ∀ o ∈ O, o.2.2.length ≤ 1261) : (O.flatMap fun o => o.2.2).length ≤ 1261 * O.length := by
  induction O with
  | nil => simp
  | cons o O ih =>
    have h1 := ih fun x hx => h x (List.mem_cons_of_mem _ hx)
    have h2 := h o (List.mem_cons_self ..)
    rw [List.flatMap_cons, List.length_append, List.length_cons]
    omega
theorem small_abs {s : Sto} {w : World} {lo hi : Nat} (h : Sto.At w lo hi s) (hk : s.abs.ok) : s.small := by
  have hn : s.objs.n = s.abs.O.length := by rw [h.objs.len]; show _ = (s.objs.xs.map strip).length; rw [List.length_map]
  have hf : ∀ o ∈ s.abs.O, o.2.2.length ≤ 1261 := fun o ho => by have := hk.fit o ho; unfold cntP at this; omega
  have hc := hk.cnt
  refine ⟨by omega, fun x hx => ?_, ?_⟩
  · have h1 := hf (strip x) (List.mem_map_of_mem hx)
    have h2 := (h.objs.all x hx).locs.len
    have h3 : x.locs.xs.length ≤ 1261 := h1
    omega
  · rw [← used_abs, Abs.used, List.length_append]
    have h1 := cnt_sum s.abs.O hf
    have h2 : s.abs.X.length ≤ 1400000 := by
      rcases Classical.em (s.abs.O = []) with h9 | h9
      · rw [hk.xl h9]; simp
      · rw [hk.xn h9]
        have := wB_len (idxS s.abs.O)
        unfold cntP
        omega
    omega
end Go.Proofs.YtfongpdeflfioaaGreat
/- store.items of texts that are an index; store.Open's deferred function, and Open's end. -/
namespace Go.Proofs.YtfongpdeflfioaaGreat
open Go.RowKit Go.Maps Go.Sort Go.Shelf
set_option linter.unusedVariables false
set_option linter.unusedSimpArgs false
set_option maxHeartbeats 1000000 in
theorem items_ok (w : World) (A : Option Addr) (n c : Nat) (l : List ByteArray) (hE : wE l = 0) (h3 : l.length % 3 = 0) (hn : n = (wB l).length) (hnc : n ≤ c) (hr : Rd w 0 w.heap.size A (bytes (wB l))) (hb : n ≤ 1000000) (hc : c ≤ maxLen) :
    Calls Tryz.prog 70 #[.slice A n c] w fun e w' => ∃ B d, e = .returned (.slice B l.length d) ∧ w'.ownsRow w.heap.size 9 1 (.slice B l.length d) l.length (l.map Value.string) ∧ Ext w w' := by
  have HRd := Lib.hid (read_any w A n c (wB l) hn hnc hr (by omega) (by simp only [maxLen] at hc; omega))
  have hl := rdw_flat l hE []
  rw [List.append_nil, if_neg (by simp)] at hl
  unfold ReadOk at HRd
  rw [hl] at HRd
  have H3 := Lib.hid (show ((l.length : Int) % 3 == 0) = true by
    have : ((l.length : Int) % 3) = 0 := by omega
    rw [this]; rfl)
  clear hl hE h3 hn hnc hr hb hc
  go_enter Tryz.func70, Tryz.ntmps70
  go_wp2_with fail
  refine HRd.out.mono ?_
  rintro e w1 ⟨v, rfl, hown, e1⟩
  obtain ⟨B, d, rfl, _, _, _⟩ := own_form hown
  have HO := Lib.hid hown
  clear hown
  go_wp2_with fail
  rw [H3.out]
  refine (sneed_true _ _).mono ?_
  rintro e w2 ⟨rfl, rfl⟩
  go_wp2_with fail
  go_ret
  exact ⟨B, d, rfl, HO.out, e1⟩
section
variable {P : Program} {ops : Array Oper} {Q : Exit → Act → List Frame → World → Prop} {i : Nat} {rest : List Nat} {a : Act} {cs cs' : List Frame} {w w' : World} {o : Oper} {v : Value}
structure WSI (P : Program) (ops : Array Oper) (Q : Exit → Act → List Frame → World → Prop) (l : List Nat) (a : Act) (cs : List Frame) (w : World) : Prop where
  out : wpOpsSIn Fence.wide 0 P ops Q l a cs w
theorem wsi_region {id : Nat} {l : List Nat} (hl : List.range ops.size = l) (h : WSI P ops Q l a cs w) : (Code.region id ops false).wpSIn Fence.wide 0 P Q a cs w := wpSIn_region (hl ▸ h.out)
theorem wsi_val (h : ops[i]? = some o) (hw : Region.wanted o (yielded ops a.tmps) = true) (hr : (execOp a.eval o).run P w = .ok (.value v) w') (k : WSI P ops Q rest (a.put o.dst v) cs w') : WSI P ops Q (i :: rest) a cs w := by
  constructor
  simp only [wpOpsSIn, h, if_pos hw, hr]
  exact ⟨fun _ _ => trivial, k.out⟩
theorem wsi_rec0 (h : ops[i]? = some o) (hw : Region.wanted o (yielded ops a.tmps) = true) (hr : (execOp a.eval o).run P w = .ok .recover w') (hd : recoverD cs = none) (k : WSI P ops Q rest (a.put o.dst .nilIface) cs w') : WSI P ops Q (i :: rest) a cs w := by
  constructor
  simp only [wpOpsSIn, h, if_pos hw, hr, hd]
  exact ⟨fun _ _ => trivial, k.out⟩
theorem wsi_end (k : Q .normal a cs w) : WSI P ops Q [] a cs w := ⟨k⟩
end
set_option maxRecDepth 100000 in
theorem op1_idle {w0 w : World} {its : List It} {p1 p2 : Value} (HH : Hid (Heap w0 its w)) :
    CallsDIn Fence.wide 0 Tryz.prog 67 #[p1, p2] .returning w fun e u' w' => e = .returned (.tuple #[]) ∧ u' = .returning ∧ Heap w0 its w' := by
  refine callsDIn_of_wpSIn Tryz.func67 rfl trivial fun c₀ cs hu => ?_
  simp only [Tryz.ntmps67, List.size_toArray, List.length_cons, List.length_nil, Nat.reduceAdd, Nat.reduceSub, Array.replicate_succ, Array.replicate_zero, List.push_toArray, List.append_toArray, List.nil_append, List.cons_append]
  apply wpSIn_seq
  apply wsi_region (l := [0,1,2,3,4,5,6]) rfl
  refine wsi_rec0 (w' := w) rfl (by kernel_rfl) (by rfl) (by simp only [recoverD, hu]) ?_
  simp only [Act.put]
  refine wsi_val (w' := w) (v := .tuple #[.int .i64 0, .bool false]) rfl (by kernel_rfl) (by kernel_rfl) ?_
  refine wsi_val (w' := w) (v := .tuple #[.int .i64 0, .bool false]) rfl (by kernel_rfl) (by kernel_rfl) ?_
  refine wsi_val (w' := w) (v := .int .i64 0) rfl (by kernel_rfl) (by kernel_rfl) ?_
  refine wsi_val (w' := w) (v := .bool false) rfl (by kernel_rfl) (by kernel_rfl) ?_
  refine wsi_val (w' := w) (v := .int .i64 0) rfl (by kernel_rfl) (by kernel_rfl) ?_
  refine wsi_val (w' := w) (v := .bool false) rfl (by kernel_rfl) (by kernel_rfl) ?_
  refine wsi_end ?_
  simp only [Exit.thenS]
  refine wpSIn_of_wpIn rfl (wpIn_wide.2 ?_)
  go_wp2_with fail
  refine ⟨rfl, .returning, ?_, .tuple #[], by kernel_rfl, rfl, rfl, HH.out⟩
  cases c₀
  simp_all
section
variable {w0 w : World} {its : List It} {R : Ending → World → Prop} {tmps : Array Value}
theorem op_leave {ob eb : Nat} {vs : List Value} {ev : Value} (H : Heap w0 its w) (i j : Nat) (hi : its[i]? = some (.box ob vs)) (hl : Nat.ble 7 vs.length = true) (hj : its[j]? = some (.box eb [ev]))
    (h4 : tmps.getD 2 undef = .pointer (some ⟨ob, 0, none⟩)) (h6 : tmps.getD 3 undef = .pointer (some ⟨eb, 0, none⟩)) (hR : ∀ w', Heap w0 its w' → R (.returned (.tuple #[.agg (vs.take 7).toArray, ev])) w') :
    LeavesInM Fence.wide 1 Tryz.prog Tryz.f24 tmps R [⟨.fn (.func 67) #[.pointer (some ⟨ob, 0, none⟩), .pointer (some ⟨eb, 0, none⟩)], #[]⟩] .returning w := by
  refine ⟨by simp, .inr ⟨fun _ => Nat.le_refl 1, _, _, 67, #[.pointer (some ⟨ob, 0, none⟩), .pointer (some ⟨eb, 0, none⟩)], rfl, by simp [go_sem], fun _ _ => trivial, ?_⟩⟩
  refine (op1_idle (Lib.hid H)).mono ?_
  rintro e u' w'' ⟨rfl, rfl, H2⟩
  simp only [settle]
  refine ⟨_, ?_, hR _ H2⟩
  have h0 := sh_loadVar (p := 0) H2 sizeSto (by kernel_rfl) i hi (by rw [Nat.zero_add]; exact Nat.le_of_ble_eq_true hl)
  have h1 := sh_loadVar1 (P := Tryz.prog) (t := 39) (p := 0) H2 (by kernel_rfl) j hj rfl
  have hx' : tmps[2]?.getD undef = .pointer (some ⟨ob, 0, none⟩) := by simpa using h4
  have hz' : tmps[3]?.getD undef = .pointer (some ⟨eb, 0, none⟩) := by simpa using h6
  rw [List.drop_zero] at h0
  simp only [results, show Tryz.f24.results = #[.cell 2 31, .cell 3 39] from rfl]
  simp [asAddr, hx', hz', h0, h1]
end
end Go.Proofs.YtfongpdeflfioaaGreat
/- slices.Chunk over strings: its iterator's rounds are the parts, in order. -/
namespace Go.Proofs.YtfongpdeflfioaaGreat
open Go.RowKit Go.Shelf
set_option linter.unusedVariables false
set_option linter.unusedSimpArgs false
attribute [local go_sem] Oper.semAt_some
set_option maxRecDepth 100000 in
set_option maxHeartbeats 4000000 in
theorem chunk1_str (l bs bm : Nat) (A : Option Addr) (n c m : Nat) (hm : 1 ≤ m) (hM : m ≤ 1000000) (hN : n ≤ 100000000000) (hnc : n ≤ c) (J : List Nat → World → Prop)
    (hJ : ∀ pre W, J pre W → W.cell? ⟨bs, 0, none⟩ = some (.slice A n c) ∧ W.cell? ⟨bm, 0, none⟩ = some (.int .i64 (m : Int)))
    (hJd : ∀ pre W, J pre W → J pre W.drew)
    (hY : ∀ pre x W1, J pre W1 → pre.length < chN m n → x = pre.length → YieldAt Fence.wide 0 Tryz.prog l #[chV A m n x] W1 fun e W' => e = .returned (.bool true) ∧ J (pre ++ [x]) W')
    (W : World) (h0 : J [] W) :
    Calls Tryz.prog 104 #[.func (.yield l) #[] #[], .pointer (some ⟨bs, 0, none⟩), .pointer (some ⟨bm, 0, none⟩)] W fun e W' => (∃ v, e = .returned v) ∧ ∃ xs, xs = List.range (chN m n) ∧ J xs W' := by
  obtain ⟨i0, hi0, hz0, hz1, hz2⟩ := info_parts info9
  have HY := Lib.hid hY
  have HJ := Lib.hid hJ
  have HD := Lib.hid hJd
  clear hY hJ hJd
  refine (callsIn_wide (n := 1)).1 (callsIn_of_wp Tryz.func104 rfl trivial ?_ rfl)
  simp only [Tryz.ntmps104, List.size_toArray, List.length_cons, List.length_nil, Nat.reduceAdd, Nat.reduceSub, Array.replicate_succ, Array.replicate_zero, List.push_toArray, List.append_toArray, List.nil_append, List.cons_append]
  gi_wp2
  gi_loopw [4] (fun i wr => ∃ k : Nat, k ≤ chN m n ∧ i = .int .i64 ((k * m : Nat) : Int) ∧ J (List.range k) wr) (fun i _ => (chN m n) * m - (intOf i).toNat)
  case atStart => exact ⟨0, Nat.zero_le _, by simp, h0⟩
  case round =>
    obtain ⟨k, hk, rfl, hJs⟩ := hrel
    obtain ⟨c1, c2⟩ := HJ.out _ _ hJs
    by_cases hlt : k < chN m n
    · have hlt2 := (chN_lt (n := n) hm).1 hlt
      obtain ⟨fn, tmps, assign, body, hy, hR⟩ := HY.out _ k wr.drew (HD.out _ _ hJs) (by simpa using hlt) (by simp)
      have hs1 := fun W => run_slice_from (P := Tryz.prog) W 126 9 i0 1 Tryz.underlying126 hi0 hz1 A n c (k * m) _ rfl (by omega)
      have hmin := Lib.hid (show (if n - k * m < m then ((n - k * m : Nat) : Int) else (m : Int)) = ((min m (n - k * m) : Nat) : Int) by
        split <;> omega)
      have hminb := Lib.hid (show min (m : Int) ((n - k * m : Nat) : Int) = ((min m (n - k * m) : Nat) : Int) by omega)
      simp only [chV] at hy
      have hq1 : 1 ≤ min m (n - k * m) := by omega
      have hq2 : min m (n - k * m) ≤ n - k * m := Nat.min_le_right _ _
      have hq3 : min m (n - k * m) ≤ m := Nat.min_le_left _ _
      have hle : k * m + m ≤ chN m n * m := by
        have : (k + 1) * m ≤ chN m n * m := Nat.mul_le_mul_right _ hlt
        rw [Nat.succ_mul] at this
        exact this
      have hchN : chN m n * m ≤ n + m := by
        have h1 := Nat.div_mul_le_self (n + m - 1) m
        show (n + m - 1) / m * m ≤ n + m
        omega
      gi_wp2
      gi_region
      (try simp only [hmin.out])
      (try simp only [hminb.out])
      generalize hq : min m (n - k * m) = q at *
      clear hmin hminb hq hs1
      have hs3 := fun W => run_slice3 (P := Tryz.prog) W 126 9 i0 Tryz.underlying126 hi0 hz1 A n c (k * m) (k * m + q) ((k * m : Nat) : Int) (((k * m : Nat) : Int) + (q : Int)) rfl (by omega) (by omega) (by omega)
      rw [show k * m + q - k * m = q by omega] at hs3
      generalize hkm : k * m = km at *
      have c1' : wr.drew.cell? { block := bs, off := 0 } = some (Value.slice A n c) := c1
      have c2' : wr.drew.cell? { block := bm, off := 0 } = some (Value.int IntKind.i64 ↑m) := c2
      gi_wp2
      refine hR.mono ?_
      rintro e W3 ⟨rfl, hJ3⟩
      obtain ⟨d1, d2⟩ := HJ.out _ _ hJ3
      gi_wp2
      go_roundw
      case rel => exact ⟨k + 1, by omega, by rw [← hkm]; congr 1; rw [Nat.succ_mul]; omega, by rw [List.range_succ]; exact hJ3⟩
      case measure => simp [intOf]; omega
    · obtain rfl : k = chN m n := by omega
      have hge : n ≤ chN m n * m := by
        rcases Nat.lt_or_ge (chN m n * m) n with h | h
        · exact absurd ((chN_lt hm).2 h) (by omega)
        · exact h
      gi_wp2
      go_end0
      exact ⟨⟨_, rfl⟩, _, rfl, hJs⟩
set_option maxRecDepth 100000 in
set_option maxHeartbeats 1000000 in
theorem chunk_str (w : World) (A : Option Addr) (n c m : Nat) (hm : 1 ≤ m) (hM : m ≤ 1000000) :
    Calls Tryz.prog 69 #[.slice A n c, .int .i64 (m : Int)] w fun e w' => e = .returned (.func (.func 104) #[] #[.pointer (some ⟨w.heap.size, 0, none⟩), .pointer (some ⟨w.heap.size + 1, 0, none⟩)]) ∧ w' = (w.alloc (.cells #[.slice A n c] 126)).alloc (.cells #[.int .i64 (m : Int)] 3) := by
  go_enter Tryz.func69, Tryz.ntmps69
  go_wp2_with fail
  go_ret
  exact ⟨rfl, rfl⟩
theorem chunk_seqS {w0 w : World} {R : List Nat → List It → Prop} {A : Option Addr} {n c m bs bm : Nat} (hm : 1 ≤ m) (hM : m ≤ 1000000) (hN : n ≤ 100000000000) (hnc : n ≤ c)
    (hcells : ∀ pre L, R pre L → ∀ W x y, Heap w0 (x :: y :: L) W → W.cell? ⟨bs, 0, none⟩ = some (.slice A n c) ∧ W.cell? ⟨bm, 0, none⟩ = some (.int .i64 (m : Int))) :
    ∀ (l : Nat) (J : List Nat → World → Prop) (W : World), Ext w W → (∀ pre W, J pre W → ∃ x y L, R pre L ∧ Heap w0 (x :: y :: L) W) → (∀ pre W, J pre W → J pre W.drew) → (false = true → AbidesFrom W.heap.size J) →
      (∀ pre x W1, J pre W1 → pre.length < chN m n → x = pre.length → YieldAt Fence.wide 0 Tryz.prog l #[chV A m n x] W1 fun e W' => e = .returned (.bool true) ∧ J (pre ++ [x]) W' ∧ (false = true → KeepW w0.heap.size W.heap.size W1 W')) → J [] W →
      Calls Tryz.prog 104 (#[.func (.yield l) #[] #[]] ++ #[.pointer (some ⟨bs, 0, none⟩), .pointer (some ⟨bm, 0, none⟩)]) W fun e W' => (∃ v, e = .returned v) ∧ ∃ xs, xs = List.range (chN m n) ∧ J xs W' :=
  fun l J W _ hJ hJd _ hY h0 => chunk1_str l bs bm A n c m hm hM hN hnc J (fun pre W h => by
    obtain ⟨x, y, L, hL, H⟩ := hJ pre W h
    exact hcells pre L hL W x y H) hJd (fun pre x W1 h1 h2 h3 => (hY pre x W1 h1 h2 h3).mono fun e W' h => ⟨h.1, h.2.1⟩) W h0
end Go.Proofs.YtfongpdeflfioaaGreat
