/- request.Parse, request.Read. -/
import Derived.Test.YtpbbjmfhcgcldaaDoorRps
import Derived.Test.YtpbbjmfhcgcldaaDoorRead
import Derived.Test.YtpbbjmfhcgcldaaDoorRegm
namespace Go.Proofs.YtpbbjmfhcgcldaaDoor
open Go.RowKit
set_option linter.unusedVariables false
set_option linter.unusedSimpArgs false

def Req.zero : Req := ⟨⟨#[]⟩, ⟨#[]⟩, 0, ⟨#[]⟩, ⟨#[]⟩, ⟨#[]⟩, 0, 0, ⟨#[]⟩⟩
/-- nine texts as a request -/
def reqOf : List ByteArray → Option Req
  | [a, b, c, d, e, f, g, h, i] => if [c, g, h].all amtS then some ⟨a, b, fV c, d, e, f, fV g, fV h, i⟩ else none
  | _ => none
def PsV (b : List UInt8) : Option Req := if (rd b).1 = 0 then reqOf (rd b).2 else none
def PsE : Option Req → Ending → Prop
  | some r, e => e = .returned (.tuple #[.agg r.cells.toArray, .int .i64 0])
  | none, e => e = .returned (.tuple #[.agg Req.zero.cells.toArray, .int .i64 33])
theorem list9 {α : Type} : ∀ (l : List α), l.length = 9 → ∃ a b c d e f g h i, l = [a, b, c, d, e, f, g, h, i]
  | [a, b, c, d, e, f, g, h, i], _ => ⟨a, b, c, d, e, f, g, h, i, rfl⟩
  | [], h | [_], h | [_, _], h | [_, _, _], h | [_, _, _, _], h | [_, _, _, _, _], h | [_, _, _, _, _, _], h | [_, _, _, _, _, _, _], h | [_, _, _, _, _, _, _, _], h => by simp at h
  | _ :: _ :: _ :: _ :: _ :: _ :: _ :: _ :: _ :: _ :: _, h => by simp at h
theorem reqOf_len (l : List ByteArray) (h : l.length ≠ 9) : reqOf l = none := by
  unfold reqOf
  split
  · exact absurd rfl h
  · rfl
theorem rd_sizes (b : List UInt8) (h : (rd b).1 = 0) : ∀ s ∈ (rd b).2, s.size ≤ 65536 := by
  obtain ⟨h1, _⟩ := rd_back b (rd b).2 (by rw [← h])
  exact ((wE_zero _).1 h1).2
theorem rd_len (b : List UInt8) (h : (rd b).1 = 0) : (rd b).2.length ≤ 1024 := by
  obtain ⟨h1, _⟩ := rd_back b (rd b).2 (by rw [← h])
  exact ((wE_zero _).1 h1).1
set_option maxRecDepth 100000 in
set_option maxHeartbeats 8000000 in
theorem parse_any (w : World) (A : Option Addr) (n c : Nat) (b : List UInt8) (hn : n = b.length) (hnc : n ≤ c) (hr : Rd w 0 w.heap.size A (bytes b)) (hb : n ≤ 150000000000000) (hc : c ≤ 9223372036854775807) :
    Calls Tryd.prog 17 #[.slice A n c] w fun e w' => PsE (PsV b) e ∧ Ext w w' := by
  have HRd := Lib.hid (fun w1 (e : Ext w w1) => read_any w1 A n c b hn hnc (Rd.at hr e (Nat.le_refl _)) hb hc)
  have HV := Lib.hid (show PsV b = if (rd b).1 = 0 then reqOf (rd b).2 else none from rfl)
  have HSz := Lib.hid (fun h => And.intro (rd_sizes b h) (rd_len b h))
  have HNo := Lib.hid (rd_none b)
  generalize PsV b = pv at *
  clear hn hr
  unfold ReadOk at HRd
  generalize rd b = rdb at *
  obtain ⟨r1, l⟩ := rdb
  simp only at HRd HV HSz HNo
  go_enter Tryd.func17, Tryd.ntmps17
  go_upto_region 1 with fail
  generalize hw1 : World.alloc w _ = w1
  have HB1 := Lib.hid (Bx.new hw1)
  simp only at HB1
  have e1 : Ext w w1 := by rw [← hw1]; exact (Ext.refl _).alloc _
  clear hw1
  go_wp2_with fail
  refine (HRd.out _ e1).mono ?_
  rintro e w2 ⟨v, rfl, hown, e2⟩
  have HOw := Lib.hid hown
  obtain ⟨A5, cap5, rfl, hlc, hcm, _⟩ := own_form hown
  clear hown
  have HB2 := Lib.hid (HB1.out.ext e2)
  have x2 : Ext w w2 := e1.trans e2
  have hcm2 : cap5 ≤ 9223372036854775807 := hcm
  have hlt : w.heap.size < w2.heap.size := HB2.out.lt
  have c0 := HB2.out.cell 0 _ rfl
  have f0 := HB2.out.frozen 0 _ rfl
  have c1 := HB2.out.cell 1 _ rfl
  have f1 := HB2.out.frozen 1 _ rfl
  have c2 := HB2.out.cell 2 _ rfl
  have f2 := HB2.out.frozen 2 _ rfl
  have c3 := HB2.out.cell 3 _ rfl
  have f3 := HB2.out.frozen 3 _ rfl
  have c4 := HB2.out.cell 4 _ rfl
  have f4 := HB2.out.frozen 4 _ rfl
  have c5 := HB2.out.cell 5 _ rfl
  have f5 := HB2.out.frozen 5 _ rfl
  have c6 := HB2.out.cell 6 _ rfl
  have f6 := HB2.out.frozen 6 _ rfl
  have c7 := HB2.out.cell 7 _ rfl
  have f7 := HB2.out.frozen 7 _ rfl
  have c8 := HB2.out.cell 8 _ rfl
  have f8 := HB2.out.frozen 8 _ rfl
  by_cases h0 : r1 = 0
  · subst h0
    obtain ⟨hsz, hl1⟩ := HSz.out rfl
    have HS := Lib.hid hsz
    clear hsz
    by_cases h9 : l.length = 9
    · obtain ⟨s0, s1, s2, s3, s4, s5, s6, s7, s8, rfl⟩ := list9 l h9
      have hrd := Rd.of_own HOw.out
      obtain ⟨nb, no, hA5, hnlo, hnb, hnc'⟩ := hrd (by simp)
      obtain rfl : A5 = some ⟨nb, no, none⟩ := hA5
      have g0 : ∀ w', Ext w2 w' → w'.cell? ⟨nb, no, none⟩ = some (.string s0) := fun w' e => by rw [Below.cell (p := ⟨nb, no, none⟩) e hnb]; simpa using hnc' 0 _ rfl
      have g1 : ∀ w', Ext w2 w' → w'.cell? ⟨nb, no + 1, none⟩ = some (.string s1) := fun w' e => by rw [Below.cell (p := ⟨nb, no + 1, none⟩) e hnb]; exact hnc' 1 _ rfl
      have g2 : ∀ w', Ext w2 w' → w'.cell? ⟨nb, no + 2, none⟩ = some (.string s2) := fun w' e => by rw [Below.cell (p := ⟨nb, no + 2, none⟩) e hnb]; exact hnc' 2 _ rfl
      have g3 : ∀ w', Ext w2 w' → w'.cell? ⟨nb, no + 3, none⟩ = some (.string s3) := fun w' e => by rw [Below.cell (p := ⟨nb, no + 3, none⟩) e hnb]; exact hnc' 3 _ rfl
      have g4 : ∀ w', Ext w2 w' → w'.cell? ⟨nb, no + 4, none⟩ = some (.string s4) := fun w' e => by rw [Below.cell (p := ⟨nb, no + 4, none⟩) e hnb]; exact hnc' 4 _ rfl
      have g5 : ∀ w', Ext w2 w' → w'.cell? ⟨nb, no + 5, none⟩ = some (.string s5) := fun w' e => by rw [Below.cell (p := ⟨nb, no + 5, none⟩) e hnb]; exact hnc' 5 _ rfl
      have g6 : ∀ w', Ext w2 w' → w'.cell? ⟨nb, no + 6, none⟩ = some (.string s6) := fun w' e => by rw [Below.cell (p := ⟨nb, no + 6, none⟩) e hnb]; exact hnc' 6 _ rfl
      have g7 : ∀ w', Ext w2 w' → w'.cell? ⟨nb, no + 7, none⟩ = some (.string s7) := fun w' e => by rw [Below.cell (p := ⟨nb, no + 7, none⟩) e hnb]; exact hnc' 7 _ rfl
      have g8 : ∀ w', Ext w2 w' → w'.cell? ⟨nb, no + 8, none⟩ = some (.string s8) := fun w' e => by rw [Below.cell (p := ⟨nb, no + 8, none⟩) e hnb]; exact hnc' 8 _ rfl
      have hvv : pv = if [s2, s6, s7].all amtS then some ⟨s0, s1, fV s2, s3, s4, s5, fV s6, fV s7, s8⟩ else none := by have := HV.out; simpa [reqOf] using this
      have HN := Lib.hid (fun w3 A (hr : Rd w3 0 w3.heap.size A (([s2, s6, s7] : List ByteArray).map Value.string)) => nums_any w3 A 3 3 [s2, s6, s7] rfl (by omega) hr (fun s hs => by
        have h1 := HS.out s (by simp only [List.mem_cons, List.not_mem_nil, or_false] at hs ⊢; rcases hs with rfl | rfl | rfl <;> simp)
        omega))
      unfold NumsR at HN
      generalize hba : [s2, s6, s7].all amtS = ba at *
      have HVV := Lib.hid hvv
      clear hvv hba hrd hnc' hnlo h9 HNo
      clear c0 c1 c2 c3 c4 c5 c6 c7 c8 f0 f1 f2 f3 f4 f5 f6 f7 f8
      have q0 := g0 _ (Ext.refl w2)
      go_wp2_with fail
      have r2 := Ext.refl w2
      refine wp_region_held_drew (S := fun w' => Ext w2 w') (by kernel_rfl) (by (repeat (first | exact Below.refl _ _ | exact Ext.refl _ | assumption | refine Below.drew ?_ | refine below_drewN ?_ _ | refine below_alloc ?_ (by first | exact Nat.le_refl _ | assumption | (simp; done) | omega | (simp; omega)) _ | refine below_ext ?_ (by assumption) (by first | exact Nat.le_refl _ | assumption | (simp; done) | omega | (simp; omega)) | refine Ext.drew ?_ | refine Ext.drewN ?_ _ | refine Ext.alloc ?_ _ | refine Ext.setCell ?_ (by first | assumption | (simp; done) | (simp; omega)) _ | refine Below.setCell ?_ (by first | assumption | (simp; done) | (simp; omega)) _ | refine Ext.trans ?_ (by assumption)))) (fun hHeld => ?_)
      refine takeL 0 (v := ?_) rfl (by kernel_rfl) (by kernel_rfl) (by kernel_rfl) (fun _ _ _ h => h) (by kernel_rfl) ?_ (by assumption) ?_; rotate_left; (focus (intro w hSw; (try dsimp only at hSw); go_simp <;> with_reducible rfl)); try simp only [Act.put, List.setIfInBounds_toArray, List.set_cons_zero, List.set_cons_succ]
      refine takeL 1 (v := ?_) rfl (by kernel_rfl) (by kernel_rfl) (by kernel_rfl) (fun _ _ _ h => h) (by kernel_rfl) ?_ (by assumption) ?_; rotate_left; (focus (intro w hSw; (try dsimp only at hSw); go_simp <;> with_reducible rfl)); try simp only [Act.put, List.setIfInBounds_toArray, List.set_cons_zero, List.set_cons_succ]
      refine takeL 2 (v := ?_) rfl (by kernel_rfl) (by kernel_rfl) (by kernel_rfl) (fun _ _ _ h => h) (by kernel_rfl) ?_ (by assumption) ?_; rotate_left; (focus (intro w hSw; (try dsimp only at hSw); go_simp <;> with_reducible rfl)); try simp only [Act.put, List.setIfInBounds_toArray, List.set_cons_zero, List.set_cons_succ]
      refine takeL 3 (v := ?_) rfl (by kernel_rfl) (by kernel_rfl) (by kernel_rfl) (fun _ _ _ h => h) (by kernel_rfl) ?_ (by assumption) ?_; rotate_left; (focus (intro w hSw; (try dsimp only at hSw); go_simp <;> with_reducible rfl)); try simp only [Act.put, List.setIfInBounds_toArray, List.set_cons_zero, List.set_cons_succ]
      refine takeL 4 (v := ?_) rfl (by kernel_rfl) (by kernel_rfl) (by kernel_rfl) (fun _ _ _ h => h) (by kernel_rfl) ?_ (by assumption) ?_; rotate_left; (focus (intro w hSw; (try dsimp only at hSw); go_simp <;> with_reducible rfl)); try simp only [Act.put, List.setIfInBounds_toArray, List.set_cons_zero, List.set_cons_succ]
      refine takeL 5 (v := ?_) rfl (by kernel_rfl) (by kernel_rfl) (by kernel_rfl) (fun _ _ _ h => h) (by kernel_rfl) ?_ (by assumption) ?_; rotate_left; (focus (intro w hSw; (try dsimp only at hSw); go_simp <;> with_reducible rfl)); try simp only [Act.put, List.setIfInBounds_toArray, List.set_cons_zero, List.set_cons_succ]
      refine takeL 6 (v := ?_) rfl (by kernel_rfl) (by kernel_rfl) (by kernel_rfl) (fun _ _ _ h => h) (by kernel_rfl) ?_ (by assumption) ?_; rotate_left; (focus (intro w hSw; (try dsimp only at hSw); go_simp <;> with_reducible rfl)); try simp only [Act.put, List.setIfInBounds_toArray, List.set_cons_zero, List.set_cons_succ]
      refine takeL 7 (v := ?_) rfl (by kernel_rfl) (by kernel_rfl) (by kernel_rfl) (fun _ _ _ h => h) (by kernel_rfl) ?_ (by assumption) ?_; rotate_left; (focus (intro w hSw; (try dsimp only at hSw); go_simp <;> with_reducible rfl)); try simp only [Act.put, List.setIfInBounds_toArray, List.set_cons_zero, List.set_cons_succ]
      refine takeL 8 (v := ?_) rfl (by kernel_rfl) (by kernel_rfl) (by kernel_rfl) (fun _ _ _ h => h) (by kernel_rfl) ?_ (by assumption) ?_; rotate_left; (focus (intro w hSw; (try dsimp only at hSw); go_simp <;> with_reducible rfl)); try simp only [Act.put, List.setIfInBounds_toArray, List.set_cons_zero, List.set_cons_succ]
      refine oneL 9 rfl (by kernel_rfl) (by kernel_rfl) (fun K hK => ?_); go_simp
      generalize hw3 : World.drew (World.alloc _ _) = w3
      have HNw : Hid (Rd w3 0 w3.heap.size (some ⟨w2.heap.size, 0, none⟩) (([s2, s6, s7] : List ByteArray).map Value.string)) := by
        subst hw3
        have := (rd_new w2 #[.string s2, .string s6, .string s7] 9).drew
        rw [Hid]
        simpa using this.more (Nat.zero_le _) (Nat.le_refl _)
      have e3 : Ext w2 w3 := by rw [← hw3]; exact ((Ext.refl _).alloc _).drew
      clear hw3
      refine hK.out _ _ e3 (fun hHeld => ?_)
      clear hK K
      try simp only [Act.put, List.setIfInBounds_toArray, List.set_cons_zero, List.set_cons_succ]
      refine oneL 10 rfl (by kernel_rfl) (by kernel_rfl) (fun K hK => ?_); go_simp
      refine (HN.out w3 _ HNw.out).mono ?_
      rintro e w4 ⟨v, rfl, hints, e4⟩
      have HI := Lib.hid hints
      clear hints
      have e5 : Ext w2 w4 := e3.trans e4
      go_wp2_with fail
      refine hK.out _ _ e5 (fun hHeld => ?_)
      clear hK K
      try simp only [Act.put, List.setIfInBounds_toArray, List.set_cons_zero, List.set_cons_succ]
      refine takeL 11 (v := ?_) rfl (by kernel_rfl) (by kernel_rfl) (by kernel_rfl) (fun _ _ _ h => h) (by kernel_rfl) ?_ (by assumption) ?_; rotate_left; (focus (intro w hSw; (try dsimp only at hSw); go_simp <;> with_reducible rfl)); try simp only [Act.put, List.setIfInBounds_toArray, List.set_cons_zero, List.set_cons_succ]
      refine takeL 12 (v := ?_) rfl (by kernel_rfl) (by kernel_rfl) (by kernel_rfl) (fun _ _ _ h => h) (by kernel_rfl) ?_ (by assumption) ?_; rotate_left; (focus (intro w hSw; (try dsimp only at hSw); go_simp <;> with_reducible rfl)); try simp only [Act.put, List.setIfInBounds_toArray, List.set_cons_zero, List.set_cons_succ]
      refine takeL 13 (v := ?_) rfl (by kernel_rfl) (by kernel_rfl) (by kernel_rfl) (fun _ _ _ h => h) (by kernel_rfl) ?_ (by assumption) ?_; rotate_left; (focus (intro w hSw; (try dsimp only at hSw); go_simp <;> with_reducible rfl)); try simp only [Act.put, List.setIfInBounds_toArray, List.set_cons_zero, List.set_cons_succ]
      refine takeL 14 (v := ?_) rfl (by kernel_rfl) (by kernel_rfl) (by kernel_rfl) (fun _ _ _ h => h) (by kernel_rfl) ?_ (by assumption) ?_; rotate_left; (focus (intro w hSw; (try dsimp only at hSw); go_simp <;> with_reducible rfl)); try simp only [Act.put, List.setIfInBounds_toArray, List.set_cons_zero, List.set_cons_succ]
      refine takeL 15 (v := ?_) rfl (by kernel_rfl) (by kernel_rfl) (by kernel_rfl) (fun _ _ _ h => h) (by kernel_rfl) ?_ (by assumption) ?_; rotate_left; (focus (intro w hSw; (try dsimp only at hSw); go_simp <;> with_reducible rfl)); try simp only [Act.put, List.setIfInBounds_toArray, List.set_cons_zero, List.set_cons_succ]
      refine wpAnyH_done (by kernel_rfl) ?_ _
      have HB4 := Lib.hid (HB2.out.ext e5)
      have c0 := HB4.out.cell 0 _ rfl
      have f0 := HB4.out.frozen 0 _ rfl
      have c1 := HB4.out.cell 1 _ rfl
      have f1 := HB4.out.frozen 1 _ rfl
      have c2 := HB4.out.cell 2 _ rfl
      have f2 := HB4.out.frozen 2 _ rfl
      have c3 := HB4.out.cell 3 _ rfl
      have f3 := HB4.out.frozen 3 _ rfl
      have c4 := HB4.out.cell 4 _ rfl
      have f4 := HB4.out.frozen 4 _ rfl
      have c5 := HB4.out.cell 5 _ rfl
      have f5 := HB4.out.frozen 5 _ rfl
      have c6 := HB4.out.cell 6 _ rfl
      have f6 := HB4.out.frozen 6 _ rfl
      have c7 := HB4.out.cell 7 _ rfl
      have f7 := HB4.out.frozen 7 _ rfl
      have c8 := HB4.out.cell 8 _ rfl
      have f8 := HB4.out.frozen 8 _ rfl
      cases ba
      · obtain rfl : pv = none := by rw [HVV.out]; rfl
        go_upto_region 6 with fail
        go_wp2_with fail
        generalize hwx : World.setCell (World.setCell (World.setCell (World.setCell (World.setCell (World.setCell (World.setCell (World.setCell (World.setCell w4 _ _) _ _) _ _) _ _) _ _) _ _) _ _) _ _) _ _ = wx; obtain ⟨hx1, hx2⟩ := Bx.putk9 HB4.out hwx; clear hwx; have y0 := hx1.cell 0 _ rfl; have y1 := hx1.cell 1 _ rfl; have y2 := hx1.cell 2 _ rfl; have y3 := hx1.cell 3 _ rfl; have y4 := hx1.cell 4 _ rfl; have y5 := hx1.cell 5 _ rfl; have y6 := hx1.cell 6 _ rfl; have y7 := hx1.cell 7 _ rfl; have y8 := hx1.cell 8 _ rfl; have ex := hx2.to_ext (b := w) (x2.trans e5) (fun k hk => by show k ≠ _; omega)
        exact bodyPost_ret (v := .tuple #[.agg Req.zero.cells.toArray, .int .i64 33]) (by simp [results, Tryd.results17, go_sem, Req.zero, Req.cells, *]) rfl ⟨rfl, ex⟩
      · obtain rfl : pv = some ⟨s0, s1, fV s2, s3, s4, s5, fV s6, fV s7, s8⟩ := by rw [HVV.out]; rfl
        have hio := HI.out rfl
        obtain ⟨A6, cap6, rfl, hl6, hc6, _⟩ := own_form hio
        have hrd6 := Rd.of_own hio
        obtain ⟨ib, io, hA6, _, hib, hic⟩ := hrd6 (by simp [ints])
        obtain rfl : A6 = some ⟨ib, io, none⟩ := hA6
        have i0' : w4.cell? ⟨ib, io, none⟩ = some (.int .i64 (fV s2)) := by simpa using hic 0 _ rfl
        have i1' : w4.cell? ⟨ib, io + 1, none⟩ = some (.int .i64 (fV s6)) := hic 1 _ rfl
        have i2' : w4.cell? ⟨ib, io + 2, none⟩ = some (.int .i64 (fV s7)) := hic 2 _ rfl
        have hlen6 : ([s2, s6, s7] : List ByteArray).length = 3 := rfl
        rw [hlen6] at hl6
        have hcm6 : cap6 ≤ 9223372036854775807 := hc6
        clear hic hrd6 hio
        have k0 : w4.cell? ⟨nb, no, none⟩ = some (.string s0) := g0 _ e5
        have k1 : w4.cell? ⟨nb, no + 1, none⟩ = some (.string s1) := g1 _ e5
        have k3 : w4.cell? ⟨nb, no + 3, none⟩ = some (.string s3) := g3 _ e5
        have k4 : w4.cell? ⟨nb, no + 4, none⟩ = some (.string s4) := g4 _ e5
        have k5 : w4.cell? ⟨nb, no + 5, none⟩ = some (.string s5) := g5 _ e5
        have k8 : w4.cell? ⟨nb, no + 8, none⟩ = some (.string s8) := g8 _ e5
        clear g0 g1 g2 g3 g4 g5 g6 g7 g8 q0
        simp only [hlen6]
        go_wp2_with fail
        refine rgnM (fun k => k != 29) (S := fun w' => w' = w4.drew) (by kernel_rfl) ?_ (fun hHeld => ?_)
        · rfl
        refine takeM 0 (v := ?_) rfl (by kernel_rfl) (by kernel_rfl) (by kernel_rfl) (by kernel_rfl) (fun _ _ _ h => h) (by kernel_rfl) ?_ (by assumption) ?_; rotate_left; (focus (intro w hSw; (try dsimp only at hSw); (try go_split_ands); go_simp <;> with_reducible rfl)); try simp only [Act.put, List.setIfInBounds_toArray, List.set_cons_zero, List.set_cons_succ]
        refine takeM 1 (v := ?_) rfl (by kernel_rfl) (by kernel_rfl) (by kernel_rfl) (by kernel_rfl) (fun _ _ _ h => h) (by kernel_rfl) ?_ (by assumption) ?_; rotate_left; (focus (intro w hSw; (try dsimp only at hSw); (try go_split_ands); go_simp <;> with_reducible rfl)); try simp only [Act.put, List.setIfInBounds_toArray, List.set_cons_zero, List.set_cons_succ]
        refine takeM 2 (v := ?_) rfl (by kernel_rfl) (by kernel_rfl) (by kernel_rfl) (by kernel_rfl) (fun _ _ _ h => h) (by kernel_rfl) ?_ (by assumption) ?_; rotate_left; (focus (intro w hSw; (try dsimp only at hSw); (try go_split_ands); go_simp <;> with_reducible rfl)); try simp only [Act.put, List.setIfInBounds_toArray, List.set_cons_zero, List.set_cons_succ]
        refine takeM 3 (v := ?_) rfl (by kernel_rfl) (by kernel_rfl) (by kernel_rfl) (by kernel_rfl) (fun _ _ _ h => h) (by kernel_rfl) ?_ (by assumption) ?_; rotate_left; (focus (intro w hSw; (try dsimp only at hSw); (try go_split_ands); go_simp <;> with_reducible rfl)); try simp only [Act.put, List.setIfInBounds_toArray, List.set_cons_zero, List.set_cons_succ]
        refine takeM 4 (v := ?_) rfl (by kernel_rfl) (by kernel_rfl) (by kernel_rfl) (by kernel_rfl) (fun _ _ _ h => h) (by kernel_rfl) ?_ (by assumption) ?_; rotate_left; (focus (intro w hSw; (try dsimp only at hSw); (try go_split_ands); go_simp <;> with_reducible rfl)); try simp only [Act.put, List.setIfInBounds_toArray, List.set_cons_zero, List.set_cons_succ]
        refine takeM 5 (v := ?_) rfl (by kernel_rfl) (by kernel_rfl) (by kernel_rfl) (by kernel_rfl) (fun _ _ _ h => h) (by kernel_rfl) ?_ (by assumption) ?_; rotate_left; (focus (intro w hSw; (try dsimp only at hSw); (try go_split_ands); go_simp <;> with_reducible rfl)); try simp only [Act.put, List.setIfInBounds_toArray, List.set_cons_zero, List.set_cons_succ]
        refine takeM 6 (v := ?_) rfl (by kernel_rfl) (by kernel_rfl) (by kernel_rfl) (by kernel_rfl) (fun _ _ _ h => h) (by kernel_rfl) ?_ (by assumption) ?_; rotate_left; (focus (intro w hSw; (try dsimp only at hSw); (try go_split_ands); go_simp <;> with_reducible rfl)); try simp only [Act.put, List.setIfInBounds_toArray, List.set_cons_zero, List.set_cons_succ]
        refine takeM 7 (v := ?_) rfl (by kernel_rfl) (by kernel_rfl) (by kernel_rfl) (by kernel_rfl) (fun _ _ _ h => h) (by kernel_rfl) ?_ (by assumption) ?_; rotate_left; (focus (intro w hSw; (try dsimp only at hSw); (try go_split_ands); go_simp <;> with_reducible rfl)); try simp only [Act.put, List.setIfInBounds_toArray, List.set_cons_zero, List.set_cons_succ]
        refine takeM 8 (v := ?_) rfl (by kernel_rfl) (by kernel_rfl) (by kernel_rfl) (by kernel_rfl) (fun _ _ _ h => h) (by kernel_rfl) ?_ (by assumption) ?_; rotate_left; (focus (intro w hSw; (try dsimp only at hSw); (try go_split_ands); go_simp <;> with_reducible rfl)); try simp only [Act.put, List.setIfInBounds_toArray, List.set_cons_zero, List.set_cons_succ]
        refine takeM 9 (v := ?_) rfl (by kernel_rfl) (by kernel_rfl) (by kernel_rfl) (by kernel_rfl) (fun _ _ _ h => h) (by kernel_rfl) ?_ (by assumption) ?_; rotate_left; (focus (intro w hSw; (try dsimp only at hSw); (try go_split_ands); go_simp <;> with_reducible rfl)); try simp only [Act.put, List.setIfInBounds_toArray, List.set_cons_zero, List.set_cons_succ]
        refine takeM 10 (v := ?_) rfl (by kernel_rfl) (by kernel_rfl) (by kernel_rfl) (by kernel_rfl) (fun _ _ _ h => h) (by kernel_rfl) ?_ (by assumption) ?_; rotate_left; (focus (intro w hSw; (try dsimp only at hSw); (try go_split_ands); go_simp <;> with_reducible rfl)); try simp only [Act.put, List.setIfInBounds_toArray, List.set_cons_zero, List.set_cons_succ]
        refine takeM 11 (v := ?_) rfl (by kernel_rfl) (by kernel_rfl) (by kernel_rfl) (by kernel_rfl) (fun _ _ _ h => h) (by kernel_rfl) ?_ (by assumption) ?_; rotate_left; (focus (intro w hSw; (try dsimp only at hSw); (try go_split_ands); go_simp <;> with_reducible rfl)); try simp only [Act.put, List.setIfInBounds_toArray, List.set_cons_zero, List.set_cons_succ]
        refine takeM 12 (v := ?_) rfl (by kernel_rfl) (by kernel_rfl) (by kernel_rfl) (by kernel_rfl) (fun _ _ _ h => h) (by kernel_rfl) ?_ (by assumption) ?_; rotate_left; (focus (intro w hSw; (try dsimp only at hSw); (try go_split_ands); go_simp <;> with_reducible rfl)); try simp only [Act.put, List.setIfInBounds_toArray, List.set_cons_zero, List.set_cons_succ]
        refine takeM 13 (v := ?_) rfl (by kernel_rfl) (by kernel_rfl) (by kernel_rfl) (by kernel_rfl) (fun _ _ _ h => h) (by kernel_rfl) ?_ (by assumption) ?_; rotate_left; (focus (intro w hSw; (try dsimp only at hSw); (try go_split_ands); go_simp <;> with_reducible rfl)); try simp only [Act.put, List.setIfInBounds_toArray, List.set_cons_zero, List.set_cons_succ]
        refine takeM 14 (v := ?_) rfl (by kernel_rfl) (by kernel_rfl) (by kernel_rfl) (by kernel_rfl) (fun _ _ _ h => h) (by kernel_rfl) ?_ (by assumption) ?_; rotate_left; (focus (intro w hSw; (try dsimp only at hSw); (try go_split_ands); go_simp <;> with_reducible rfl)); try simp only [Act.put, List.setIfInBounds_toArray, List.set_cons_zero, List.set_cons_succ]
        refine takeM 15 (v := ?_) rfl (by kernel_rfl) (by kernel_rfl) (by kernel_rfl) (by kernel_rfl) (fun _ _ _ h => h) (by kernel_rfl) ?_ (by assumption) ?_; rotate_left; (focus (intro w hSw; (try dsimp only at hSw); (try go_split_ands); go_simp <;> with_reducible rfl)); try simp only [Act.put, List.setIfInBounds_toArray, List.set_cons_zero, List.set_cons_succ]
        refine takeM 16 (v := ?_) rfl (by kernel_rfl) (by kernel_rfl) (by kernel_rfl) (by kernel_rfl) (fun _ _ _ h => h) (by kernel_rfl) ?_ (by assumption) ?_; rotate_left; (focus (intro w hSw; (try dsimp only at hSw); (try go_split_ands); go_simp <;> with_reducible rfl)); try simp only [Act.put, List.setIfInBounds_toArray, List.set_cons_zero, List.set_cons_succ]
        refine takeM 17 (v := ?_) rfl (by kernel_rfl) (by kernel_rfl) (by kernel_rfl) (by kernel_rfl) (fun _ _ _ h => h) (by kernel_rfl) ?_ (by assumption) ?_; rotate_left; (focus (intro w hSw; (try dsimp only at hSw); (try go_split_ands); go_simp <;> with_reducible rfl)); try simp only [Act.put, List.setIfInBounds_toArray, List.set_cons_zero, List.set_cons_succ]
        refine takeM 18 (v := ?_) rfl (by kernel_rfl) (by kernel_rfl) (by kernel_rfl) (by kernel_rfl) (fun _ _ _ h => h) (by kernel_rfl) ?_ (by assumption) ?_; rotate_left; (focus (intro w hSw; (try dsimp only at hSw); (try go_split_ands); go_simp <;> with_reducible rfl)); try simp only [Act.put, List.setIfInBounds_toArray, List.set_cons_zero, List.set_cons_succ]
        refine takeM 19 (v := ?_) rfl (by kernel_rfl) (by kernel_rfl) (by kernel_rfl) (by kernel_rfl) (fun _ _ _ h => h) (by kernel_rfl) ?_ (by assumption) ?_; rotate_left; (focus (intro w hSw; (try dsimp only at hSw); (try go_split_ands); go_simp <;> with_reducible rfl)); try simp only [Act.put, List.setIfInBounds_toArray, List.set_cons_zero, List.set_cons_succ]
        refine takeM 20 (v := ?_) rfl (by kernel_rfl) (by kernel_rfl) (by kernel_rfl) (by kernel_rfl) (fun _ _ _ h => h) (by kernel_rfl) ?_ (by assumption) ?_; rotate_left; (focus (intro w hSw; (try dsimp only at hSw); (try go_split_ands); go_simp <;> with_reducible rfl)); try simp only [Act.put, List.setIfInBounds_toArray, List.set_cons_zero, List.set_cons_succ]
        refine takeM 21 (v := ?_) rfl (by kernel_rfl) (by kernel_rfl) (by kernel_rfl) (by kernel_rfl) (fun _ _ _ h => h) (by kernel_rfl) ?_ (by assumption) ?_; rotate_left; (focus (intro w hSw; (try dsimp only at hSw); (try go_split_ands); go_simp <;> with_reducible rfl)); try simp only [Act.put, List.setIfInBounds_toArray, List.set_cons_zero, List.set_cons_succ]
        refine takeM 22 (v := ?_) rfl (by kernel_rfl) (by kernel_rfl) (by kernel_rfl) (by kernel_rfl) (fun _ _ _ h => h) (by kernel_rfl) ?_ (by assumption) ?_; rotate_left; (focus (intro w hSw; (try dsimp only at hSw); (try go_split_ands); go_simp <;> with_reducible rfl)); try simp only [Act.put, List.setIfInBounds_toArray, List.set_cons_zero, List.set_cons_succ]
        refine takeM 23 (v := ?_) rfl (by kernel_rfl) (by kernel_rfl) (by kernel_rfl) (by kernel_rfl) (fun _ _ _ h => h) (by kernel_rfl) ?_ (by assumption) ?_; rotate_left; (focus (intro w hSw; (try dsimp only at hSw); (try go_split_ands); go_simp <;> with_reducible rfl)); try simp only [Act.put, List.setIfInBounds_toArray, List.set_cons_zero, List.set_cons_succ]
        refine takeM 24 (v := ?_) rfl (by kernel_rfl) (by kernel_rfl) (by kernel_rfl) (by kernel_rfl) (fun _ _ _ h => h) (by kernel_rfl) ?_ (by assumption) ?_; rotate_left; (focus (intro w hSw; (try dsimp only at hSw); (try go_split_ands); go_simp <;> with_reducible rfl)); try simp only [Act.put, List.setIfInBounds_toArray, List.set_cons_zero, List.set_cons_succ]
        refine takeM 25 (v := ?_) rfl (by kernel_rfl) (by kernel_rfl) (by kernel_rfl) (by kernel_rfl) (fun _ _ _ h => h) (by kernel_rfl) ?_ (by assumption) ?_; rotate_left; (focus (intro w hSw; (try dsimp only at hSw); (try go_split_ands); go_simp <;> with_reducible rfl)); try simp only [Act.put, List.setIfInBounds_toArray, List.set_cons_zero, List.set_cons_succ]
        refine takeM 26 (v := ?_) rfl (by kernel_rfl) (by kernel_rfl) (by kernel_rfl) (by kernel_rfl) (fun _ _ _ h => h) (by kernel_rfl) ?_ (by assumption) ?_; rotate_left; (focus (intro w hSw; (try dsimp only at hSw); (try go_split_ands); go_simp <;> with_reducible rfl)); try simp only [Act.put, List.setIfInBounds_toArray, List.set_cons_zero, List.set_cons_succ]
        refine takeM 27 (v := ?_) rfl (by kernel_rfl) (by kernel_rfl) (by kernel_rfl) (by kernel_rfl) (fun _ _ _ h => h) (by kernel_rfl) ?_ (by assumption) ?_; rotate_left; (focus (intro w hSw; (try dsimp only at hSw); (try go_split_ands); go_simp <;> with_reducible rfl)); try simp only [Act.put, List.setIfInBounds_toArray, List.set_cons_zero, List.set_cons_succ]
        refine freeM 28 rfl (by kernel_rfl) (by kernel_rfl) (by kernel_rfl) (fun K hK => ?_); (try go_simp)
        generalize hwx : World.setCell (World.setCell (World.setCell (World.setCell (World.setCell (World.setCell (World.setCell (World.setCell (World.setCell w4 _ _) _ _) _ _) _ _) _ _) _ _) _ _) _ _) _ _ = wx; obtain ⟨hx1, hx2⟩ := Bx.putk9 HB4.out hwx; clear hwx; have y0 := hx1.cell 0 _ rfl; have y1 := hx1.cell 1 _ rfl; have y2 := hx1.cell 2 _ rfl; have y3 := hx1.cell 3 _ rfl; have y4 := hx1.cell 4 _ rfl; have y5 := hx1.cell 5 _ rfl; have y6 := hx1.cell 6 _ rfl; have y7 := hx1.cell 7 _ rfl; have y8 := hx1.cell 8 _ rfl; have ex := hx2.to_ext (b := w) (x2.trans e5) (fun k hk => by show k ≠ _; omega)
        refine hK.out _ _ ?_
        clear hK K
        try simp only [Act.put, List.setIfInBounds_toArray, List.set_cons_zero, List.set_cons_succ]
        refine freeM 29 rfl (by kernel_rfl) (by kernel_rfl) (by kernel_rfl) (fun K hK => ?_); (try go_simp)
        refine hK.out _ _ ?_
        clear hK K
        try simp only [Act.put, List.setIfInBounds_toArray, List.set_cons_zero, List.set_cons_succ]
        refine doneM (by kernel_rfl) ?_
        go_wp2_with fail
        exact bodyPost_ret (v := .tuple #[.agg (Req.cells ⟨s0, s1, fV s2, s3, s4, s5, fV s6, fV s7, s8⟩).toArray, .int .i64 0]) (by simp [results, Tryd.results17, go_sem, Req.cells, *]) rfl ⟨rfl, ex.drew⟩
    · have hpn : pv = none := by
        have := HV.out
        rw [if_pos rfl, reqOf_len _ h9] at this
        exact this
      subst hpn
      have h9b : ((l.length : Int) != 9) = true := by simp; omega
      clear h9 HV HNo HSz
      go_wp2_with fail
      generalize hwx : World.setCell (World.setCell (World.setCell (World.setCell (World.setCell (World.setCell (World.setCell (World.setCell (World.setCell w2 _ _) _ _) _ _) _ _) _ _) _ _) _ _) _ _) _ _ = wx; obtain ⟨hx1, hx2⟩ := Bx.putk9 HB2.out hwx; clear hwx; have y0 := hx1.cell 0 _ rfl; have y1 := hx1.cell 1 _ rfl; have y2 := hx1.cell 2 _ rfl; have y3 := hx1.cell 3 _ rfl; have y4 := hx1.cell 4 _ rfl; have y5 := hx1.cell 5 _ rfl; have y6 := hx1.cell 6 _ rfl; have y7 := hx1.cell 7 _ rfl; have y8 := hx1.cell 8 _ rfl; have ex := hx2.to_ext (b := w) x2 (fun k hk => by show k ≠ _; omega)
      exact bodyPost_ret (v := .tuple #[.agg Req.zero.cells.toArray, .int .i64 33]) (by simp [results, Tryd.results17, go_sem, Req.zero, Req.cells, *]) rfl ⟨rfl, ex⟩
  · have hpn : pv = none := by
      have := HV.out
      rw [if_neg h0] at this
      exact this
    subst hpn
    have hr1 : (r1 != 0) = true := by simp [bne, h0]
    clear h0 HV HNo HSz
    go_wp2_with fail
    generalize hwx : World.setCell (World.setCell (World.setCell (World.setCell (World.setCell (World.setCell (World.setCell (World.setCell (World.setCell w2 _ _) _ _) _ _) _ _) _ _) _ _) _ _) _ _) _ _ = wx; obtain ⟨hx1, hx2⟩ := Bx.putk9 HB2.out hwx; clear hwx; have y0 := hx1.cell 0 _ rfl; have y1 := hx1.cell 1 _ rfl; have y2 := hx1.cell 2 _ rfl; have y3 := hx1.cell 3 _ rfl; have y4 := hx1.cell 4 _ rfl; have y5 := hx1.cell 5 _ rfl; have y6 := hx1.cell 6 _ rfl; have y7 := hx1.cell 7 _ rfl; have y8 := hx1.cell 8 _ rfl; have ex := hx2.to_ext (b := w) x2 (fun k hk => by show k ≠ _; omega)
    exact bodyPost_ret (v := .tuple #[.agg Req.zero.cells.toArray, .int .i64 33]) (by simp [results, Tryd.results17, go_sem, Req.zero, Req.cells, *]) rfl ⟨rfl, ex⟩
/-- a reply's texts -/
def repOf : List ByteArray → Option (Int × Int × ByteArray × List ByteArray)
  | a :: b :: c :: l => if [a, b].all amtS then some (fV a, fV b, c, l) else none
  | _ => none
def RdV (b : List UInt8) : Option (Int × Int × ByteArray × List ByteArray) := if (rd b).1 = 0 then repOf (rd b).2 else none
def Rep.zero : Rep := ⟨0, 0, ⟨#[]⟩, ⟨none, 0, 0, []⟩⟩
def RdE (w : World) : Option (Int × Int × ByteArray × List ByteArray) → Ending → World → Prop
  | some v, e, w' => ∃ r : Rep, e = .returned (.tuple #[.agg r.cells.toArray, .int .i64 0]) ∧ r.abs = v ∧ Rep.At w' w.heap.size w'.heap.size r
  | none, e, _ => e = .returned (.tuple #[.agg Rep.zero.cells.toArray, .int .i64 33])
theorem repOf_len (l : List ByteArray) (h : l.length < 3) : repOf l = none := by
  unfold repOf
  split
  · simp at h; omega
  · rfl
theorem list3 {α : Type} : ∀ (l : List α), 3 ≤ l.length → ∃ a b c r, l = a :: b :: c :: r
  | a :: b :: c :: r, _ => ⟨a, b, c, r, rfl⟩
  | [], h | [_], h | [_, _], h => by simp at h
set_option maxRecDepth 100000 in
set_option maxHeartbeats 8000000 in
theorem readr_any (w : World) (A : Option Addr) (n c : Nat) (b : List UInt8) (hn : n = b.length) (hnc : n ≤ c) (hr : Rd w 0 w.heap.size A (bytes b)) (hb : n ≤ 150000000000000) (hc : c ≤ 9223372036854775807) :
    Calls Tryd.prog 18 #[.slice A n c] w fun e w' => RdE w (RdV b) e w' ∧ Ext w w' := by
  have HRd := Lib.hid (fun w1 (e : Ext w w1) => read_any w1 A n c b hn hnc (Rd.at hr e (Nat.le_refl _)) hb hc)
  have HV := Lib.hid (show RdV b = if (rd b).1 = 0 then repOf (rd b).2 else none from rfl)
  have HSz := Lib.hid (fun h => And.intro (rd_sizes b h) (rd_len b h))
  generalize RdV b = pv at *
  clear hn hr
  unfold ReadOk at HRd
  generalize rd b = rdb at *
  obtain ⟨r1, l⟩ := rdb
  simp only at HRd HV HSz
  go_enter Tryd.func18, Tryd.ntmps18
  go_upto_region 1 with fail
  generalize hw1 : World.alloc w _ = w1
  have HB1 := Lib.hid (Bx.new hw1)
  simp only at HB1
  have e1 : Ext w w1 := by rw [← hw1]; exact (Ext.refl _).alloc _
  have z1 : w1.heap.size = w.heap.size + 1 := by rw [← hw1]; simp
  have Z1 := Lib.hid z1
  clear hw1 z1
  go_wp2_with fail
  refine (HRd.out _ e1).mono ?_
  rintro e w2 ⟨v, rfl, hown, e2⟩
  have HOw := Lib.hid hown
  obtain ⟨A5, cap5, rfl, hlc, hcm, _⟩ := own_form hown
  clear hown
  have HB2 := Lib.hid (HB1.out.ext e2)
  have x2 : Ext w w2 := e1.trans e2
  have hcm2 : cap5 ≤ 9223372036854775807 := hcm
  have hlt : w.heap.size < w2.heap.size := HB2.out.lt
  have c0 := HB2.out.cell 0 _ rfl
  have f0 := HB2.out.frozen 0 _ rfl
  have c1 := HB2.out.cell 1 _ rfl
  have f1 := HB2.out.frozen 1 _ rfl
  have c2 := HB2.out.cell 2 _ rfl
  have f2 := HB2.out.frozen 2 _ rfl
  have c3 := HB2.out.cell 3 _ rfl
  have f3 := HB2.out.frozen 3 _ rfl
  by_cases h0 : r1 = 0
  · subst h0
    obtain ⟨hsz, hl1⟩ := HSz.out rfl
    have HS := Lib.hid hsz
    clear hsz
    by_cases h9 : 3 ≤ l.length
    · obtain ⟨s0, s1, s2, lr, rfl⟩ := list3 l h9
      have hrd := Rd.of_own HOw.out
      obtain ⟨nb, no, hA5, hnlo, hnb, hnc'⟩ := hrd (by simp)
      have HRow := Lib.hid hrd
      obtain rfl : A5 = some ⟨nb, no, none⟩ := hA5
      have g0 : ∀ w', Ext w2 w' → w'.cell? ⟨nb, no, none⟩ = some (.string s0) := fun w' e => by rw [Below.cell (p := ⟨nb, no, none⟩) e hnb]; simpa using hnc' 0 _ rfl
      have g1 : ∀ w', Ext w2 w' → w'.cell? ⟨nb, no + 1, none⟩ = some (.string s1) := fun w' e => by rw [Below.cell (p := ⟨nb, no + 1, none⟩) e hnb]; exact hnc' 1 _ rfl
      have g2 : ∀ w', Ext w2 w' → w'.cell? ⟨nb, no + 2, none⟩ = some (.string s2) := fun w' e => by rw [Below.cell (p := ⟨nb, no + 2, none⟩) e hnb]; exact hnc' 2 _ rfl
      have hvv : pv = if [s0, s1].all amtS then some (fV s0, fV s1, s2, lr) else none := by have := HV.out; simpa [repOf] using this
      have HN := Lib.hid (fun w3 A (hr : Rd w3 0 w3.heap.size A (([s0, s1] : List ByteArray).map Value.string)) => nums_any w3 A 2 2 [s0, s1] rfl (by omega) hr (fun s hs => by
        have h1 := HS.out s (by simp only [List.mem_cons, List.not_mem_nil, or_false] at hs ⊢; rcases hs with rfl | rfl <;> simp)
        omega))
      unfold NumsR at HN
      generalize hba : [s0, s1].all amtS = ba at *
      have HVV := Lib.hid hvv
      clear hvv hba hrd hnc' hnlo HV
      clear c0 c1 c2 c3 f0 f1 f2 f3
      generalize hll : (s0 :: s1 :: s2 :: lr).length = ll at *
      have HLL := Lib.hid (show ll = lr.length + 3 by rw [← hll]; rfl)
      clear hll
      have hnl : ((ll : Int) < 3) = False := by simp; omega
      have hnl2 : decide ((ll : Int) < 3) = false := by simp; omega
      have hnl3 : (3 : Int) ≤ (ll : Int) := by omega
      have hq0 : 0 < ll := by omega
      have hq1 : (1 : Int) < ll := by omega
      have hq2 : (2 : Int) < ll := by omega
      clear hnl
      go_wp2_with fail
      have r2 := Ext.refl w2
      refine wp_region_held_drew (S := fun w' => Ext w2 w') (by kernel_rfl) (by (repeat (first | exact Below.refl _ _ | exact Ext.refl _ | assumption | refine Below.drew ?_ | refine below_drewN ?_ _ | refine below_alloc ?_ (by first | exact Nat.le_refl _ | assumption | (simp; done) | omega | (simp; omega)) _ | refine below_ext ?_ (by assumption) (by first | exact Nat.le_refl _ | assumption | (simp; done) | omega | (simp; omega)) | refine Ext.drew ?_ | refine Ext.drewN ?_ _ | refine Ext.alloc ?_ _ | refine Ext.setCell ?_ (by first | assumption | (simp; done) | (simp; omega)) _ | refine Below.setCell ?_ (by first | assumption | (simp; done) | (simp; omega)) _ | refine Ext.trans ?_ (by assumption)))) (fun hHeld => ?_)
      refine takeL 0 (v := ?_) rfl (by kernel_rfl) (by kernel_rfl) (by kernel_rfl) (fun _ _ _ h => h) (by kernel_rfl) ?_ (by assumption) ?_; rotate_left; (focus (intro w hSw; (try dsimp only at hSw); go_simp <;> with_reducible rfl)); try simp only [Act.put, List.setIfInBounds_toArray, List.set_cons_zero, List.set_cons_succ]
      refine takeL 1 (v := ?_) rfl (by kernel_rfl) (by kernel_rfl) (by kernel_rfl) (fun _ _ _ h => h) (by kernel_rfl) ?_ (by assumption) ?_; rotate_left; (focus (intro w hSw; (try dsimp only at hSw); go_simp <;> with_reducible rfl)); try simp only [Act.put, List.setIfInBounds_toArray, List.set_cons_zero, List.set_cons_succ]
      refine takeL 2 (v := ?_) rfl (by kernel_rfl) (by kernel_rfl) (by kernel_rfl) (fun _ _ _ h => h) (by kernel_rfl) ?_ (by assumption) ?_; rotate_left; (focus (intro w hSw; (try dsimp only at hSw); go_simp <;> with_reducible rfl)); try simp only [Act.put, List.setIfInBounds_toArray, List.set_cons_zero, List.set_cons_succ]
      refine takeL 3 (v := ?_) rfl (by kernel_rfl) (by kernel_rfl) (by kernel_rfl) (fun _ _ _ h => h) (by kernel_rfl) ?_ (by assumption) ?_; rotate_left; (focus (intro w hSw; (try dsimp only at hSw); go_simp <;> with_reducible rfl)); try simp only [Act.put, List.setIfInBounds_toArray, List.set_cons_zero, List.set_cons_succ]
      refine takeL 4 (v := ?_) rfl (by kernel_rfl) (by kernel_rfl) (by kernel_rfl) (fun _ _ _ h => h) (by kernel_rfl) ?_ (by assumption) ?_; rotate_left; (focus (intro w hSw; (try dsimp only at hSw); go_simp <;> with_reducible rfl)); try simp only [Act.put, List.setIfInBounds_toArray, List.set_cons_zero, List.set_cons_succ]
      refine takeL 5 (v := ?_) rfl (by kernel_rfl) (by kernel_rfl) (by kernel_rfl) (fun _ _ _ h => h) (by kernel_rfl) ?_ (by assumption) ?_; rotate_left; (focus (intro w hSw; (try dsimp only at hSw); go_simp <;> with_reducible rfl)); try simp only [Act.put, List.setIfInBounds_toArray, List.set_cons_zero, List.set_cons_succ]
      refine oneL 6 rfl (by kernel_rfl) (by kernel_rfl) (fun K hK => ?_); go_simp
      generalize hw3 : World.drew (World.alloc _ _) = w3
      have HNw : Hid (Rd w3 0 w3.heap.size (some ⟨w2.heap.size, 0, none⟩) (([s0, s1] : List ByteArray).map Value.string)) := by
        subst hw3
        have := (rd_new w2 #[.string s0, .string s1] 9).drew
        rw [Hid]
        simpa using this.more (Nat.zero_le _) (Nat.le_refl _)
      have e3 : Ext w2 w3 := by rw [← hw3]; exact ((Ext.refl _).alloc _).drew
      clear hw3
      refine hK.out _ _ e3 (fun hHeld => ?_)
      clear hK K
      try simp only [Act.put, List.setIfInBounds_toArray, List.set_cons_zero, List.set_cons_succ]
      refine oneL 7 rfl (by kernel_rfl) (by kernel_rfl) (fun K hK => ?_); go_simp
      refine (HN.out w3 _ HNw.out).mono ?_
      rintro e w4 ⟨v, rfl, hints, e4⟩
      have HI := Lib.hid hints
      clear hints
      have e5 : Ext w2 w4 := e3.trans e4
      go_wp2_with fail
      refine hK.out _ _ e5 (fun hHeld => ?_)
      clear hK K
      try simp only [Act.put, List.setIfInBounds_toArray, List.set_cons_zero, List.set_cons_succ]
      refine takeL 8 (v := ?_) rfl (by kernel_rfl) (by kernel_rfl) (by kernel_rfl) (fun _ _ _ h => h) (by kernel_rfl) ?_ (by assumption) ?_; rotate_left; (focus (intro w hSw; (try dsimp only at hSw); go_simp <;> with_reducible rfl)); try simp only [Act.put, List.setIfInBounds_toArray, List.set_cons_zero, List.set_cons_succ]
      refine takeL 9 (v := ?_) rfl (by kernel_rfl) (by kernel_rfl) (by kernel_rfl) (fun _ _ _ h => h) (by kernel_rfl) ?_ (by assumption) ?_; rotate_left; (focus (intro w hSw; (try dsimp only at hSw); go_simp <;> with_reducible rfl)); try simp only [Act.put, List.setIfInBounds_toArray, List.set_cons_zero, List.set_cons_succ]
      refine takeL 10 (v := ?_) rfl (by kernel_rfl) (by kernel_rfl) (by kernel_rfl) (fun _ _ _ h => h) (by kernel_rfl) ?_ (by assumption) ?_; rotate_left; (focus (intro w hSw; (try dsimp only at hSw); go_simp <;> with_reducible rfl)); try simp only [Act.put, List.setIfInBounds_toArray, List.set_cons_zero, List.set_cons_succ]
      refine takeL 11 (v := ?_) rfl (by kernel_rfl) (by kernel_rfl) (by kernel_rfl) (fun _ _ _ h => h) (by kernel_rfl) ?_ (by assumption) ?_; rotate_left; (focus (intro w hSw; (try dsimp only at hSw); go_simp <;> with_reducible rfl)); try simp only [Act.put, List.setIfInBounds_toArray, List.set_cons_zero, List.set_cons_succ]
      refine takeL 12 (v := ?_) rfl (by kernel_rfl) (by kernel_rfl) (by kernel_rfl) (fun _ _ _ h => h) (by kernel_rfl) ?_ (by assumption) ?_; rotate_left; (focus (intro w hSw; (try dsimp only at hSw); go_simp <;> with_reducible rfl)); try simp only [Act.put, List.setIfInBounds_toArray, List.set_cons_zero, List.set_cons_succ]
      refine wpAnyH_done (by kernel_rfl) ?_ _
      have HB4 := Lib.hid (HB2.out.ext e5)
      have c0 := HB4.out.cell 0 _ rfl
      have f0 := HB4.out.frozen 0 _ rfl
      have c1 := HB4.out.cell 1 _ rfl
      have f1 := HB4.out.frozen 1 _ rfl
      have c2 := HB4.out.cell 2 _ rfl
      have f2 := HB4.out.frozen 2 _ rfl
      have c3 := HB4.out.cell 3 _ rfl
      have f3 := HB4.out.frozen 3 _ rfl
      cases ba
      · obtain rfl : pv = none := by rw [HVV.out]; rfl
        go_upto_region 6 with fail
        go_wp2_with fail
        generalize hwx : World.setCell (World.setCell (World.setCell (World.setCell w4 _ _) _ _) _ _) _ _ = wx; obtain ⟨hx1, hx2⟩ := Bx.putk4 HB4.out hwx; clear hwx; have y0 := hx1.cell 0 _ rfl; have y1 := hx1.cell 1 _ rfl; have y2 := hx1.cell 2 _ rfl; have y3 := hx1.cell 3 _ rfl; have ex := hx2.to_ext (b := w) (x2.trans e5) (fun k hk => by show k ≠ _; omega)
        exact bodyPost_ret (v := .tuple #[.agg Rep.zero.cells.toArray, .int .i64 33]) (by simp [results, Tryd.results18, go_sem, Rep.zero, Rep.cells, Sl.val, *]) rfl ⟨rfl, ex⟩
      · obtain rfl : pv = some (fV s0, fV s1, s2, lr) := by rw [HVV.out]; rfl
        have hio := HI.out rfl
        obtain ⟨A6, cap6, rfl, hl6, hc6, _⟩ := own_form hio
        have hrd6 := Rd.of_own hio
        obtain ⟨ib, io, hA6, _, hib, hic⟩ := hrd6 (by simp [ints])
        obtain rfl : A6 = some ⟨ib, io, none⟩ := hA6
        have i0' : w4.cell? ⟨ib, io, none⟩ = some (.int .i64 (fV s0)) := by simpa using hic 0 _ rfl
        have i1' : w4.cell? ⟨ib, io + 1, none⟩ = some (.int .i64 (fV s1)) := hic 1 _ rfl
        have hlen6 : ([s0, s1] : List ByteArray).length = 2 := rfl
        rw [hlen6] at hl6
        have hcm6 : cap6 ≤ 9223372036854775807 := hc6
        clear hic hrd6 hio
        have k2 : w4.cell? ⟨nb, no + 2, none⟩ = some (.string s2) := g2 _ e5
        have hsl : (Instr.slice 25 (.slice (some ⟨nb, no, none⟩) ll cap5) (some (.int .i64 3)) none none).run Tryd.prog w4.drew = .ok (.slice (shiftA (some ⟨nb, no, none⟩) cap5 3 1) (ll - 3) (cap5 - 3)) w4.drew := by
          obtain ⟨j0, hj0, _, hj1, _⟩ := info_parts info9
          exact run_slice_from w4.drew 25 9 j0 1 Tryd.underlying25 hj0 hj1 _ ll cap5 3 3 rfl (by omega)
        have HRl := Lib.hid (show Rd w4 w1.heap.size w4.heap.size (shiftA (some ⟨nb, no, none⟩) cap5 3 1) (lr.map Value.string) by
          have h1 : Rd w4 w1.heap.size w4.heap.size (some ⟨nb, no, none⟩) ((s0 :: s1 :: s2 :: lr).map Value.string) := Rd.at HRow.out e5 (Nat.le_refl _)
          have h2 := h1.from_ (n := ll) (c := cap5) (k := 3) (size := 1) (by rw [List.length_map, HLL.out]; simp) (by omega) (by omega)
          exact h2)
        generalize hsA : shiftA (some ⟨nb, no, none⟩) cap5 3 1 = sA at *
        clear hsA
        clear g0 g1 g2
        simp only [hlen6]
        go_wp2_with fail
        refine rgnM (fun k => k != 13) (S := fun w' => w' = w4.drew) (by kernel_rfl) ?_ (fun hHeld => ?_)
        · rfl
        refine takeM 0 (v := ?_) rfl (by kernel_rfl) (by kernel_rfl) (by kernel_rfl) (by kernel_rfl) (fun _ _ _ h => h) (by kernel_rfl) ?_ (by assumption) ?_; rotate_left; (focus (intro w hSw; (try dsimp only at hSw); (try go_split_ands); go_simp <;> with_reducible rfl)); try simp only [Act.put, List.setIfInBounds_toArray, List.set_cons_zero, List.set_cons_succ]
        refine takeM 1 (v := ?_) rfl (by kernel_rfl) (by kernel_rfl) (by kernel_rfl) (by kernel_rfl) (fun _ _ _ h => h) (by kernel_rfl) ?_ (by assumption) ?_; rotate_left; (focus (intro w hSw; (try dsimp only at hSw); (try go_split_ands); go_simp <;> with_reducible rfl)); try simp only [Act.put, List.setIfInBounds_toArray, List.set_cons_zero, List.set_cons_succ]
        refine takeM 2 (v := ?_) rfl (by kernel_rfl) (by kernel_rfl) (by kernel_rfl) (by kernel_rfl) (fun _ _ _ h => h) (by kernel_rfl) ?_ (by assumption) ?_; rotate_left; (focus (intro w hSw; (try dsimp only at hSw); (try go_split_ands); go_simp <;> with_reducible rfl)); try simp only [Act.put, List.setIfInBounds_toArray, List.set_cons_zero, List.set_cons_succ]
        refine takeM 3 (v := ?_) rfl (by kernel_rfl) (by kernel_rfl) (by kernel_rfl) (by kernel_rfl) (fun _ _ _ h => h) (by kernel_rfl) ?_ (by assumption) ?_; rotate_left; (focus (intro w hSw; (try dsimp only at hSw); (try go_split_ands); go_simp <;> with_reducible rfl)); try simp only [Act.put, List.setIfInBounds_toArray, List.set_cons_zero, List.set_cons_succ]
        refine takeM 4 (v := ?_) rfl (by kernel_rfl) (by kernel_rfl) (by kernel_rfl) (by kernel_rfl) (fun _ _ _ h => h) (by kernel_rfl) ?_ (by assumption) ?_; rotate_left; (focus (intro w hSw; (try dsimp only at hSw); (try go_split_ands); go_simp <;> with_reducible rfl)); try simp only [Act.put, List.setIfInBounds_toArray, List.set_cons_zero, List.set_cons_succ]
        refine takeM 5 (v := ?_) rfl (by kernel_rfl) (by kernel_rfl) (by kernel_rfl) (by kernel_rfl) (fun _ _ _ h => h) (by kernel_rfl) ?_ (by assumption) ?_; rotate_left; (focus (intro w hSw; (try dsimp only at hSw); (try go_split_ands); go_simp <;> with_reducible rfl)); try simp only [Act.put, List.setIfInBounds_toArray, List.set_cons_zero, List.set_cons_succ]
        refine takeM 6 (v := ?_) rfl (by kernel_rfl) (by kernel_rfl) (by kernel_rfl) (by kernel_rfl) (fun _ _ _ h => h) (by kernel_rfl) ?_ (by assumption) ?_; rotate_left; (focus (intro w hSw; (try dsimp only at hSw); (try go_split_ands); go_simp <;> with_reducible rfl)); try simp only [Act.put, List.setIfInBounds_toArray, List.set_cons_zero, List.set_cons_succ]
        refine takeM 7 (v := ?_) rfl (by kernel_rfl) (by kernel_rfl) (by kernel_rfl) (by kernel_rfl) (fun _ _ _ h => h) (by kernel_rfl) ?_ (by assumption) ?_; rotate_left; (focus (intro w hSw; (try dsimp only at hSw); (try go_split_ands); go_simp <;> with_reducible rfl)); try simp only [Act.put, List.setIfInBounds_toArray, List.set_cons_zero, List.set_cons_succ]
        refine takeM 8 (v := ?_) rfl (by kernel_rfl) (by kernel_rfl) (by kernel_rfl) (by kernel_rfl) (fun _ _ _ h => h) (by kernel_rfl) ?_ (by assumption) ?_; rotate_left; (focus (intro w hSw; (try dsimp only at hSw); (try go_split_ands); go_simp <;> with_reducible rfl)); try simp only [Act.put, List.setIfInBounds_toArray, List.set_cons_zero, List.set_cons_succ]
        refine takeM 9 (v := ?_) rfl (by kernel_rfl) (by kernel_rfl) (by kernel_rfl) (by kernel_rfl) (fun _ _ _ h => h) (by kernel_rfl) ?_ (by assumption) ?_; rotate_left; (focus (intro w hSw; (try dsimp only at hSw); (try go_split_ands); go_simp <;> with_reducible rfl)); try simp only [Act.put, List.setIfInBounds_toArray, List.set_cons_zero, List.set_cons_succ]
        refine takeM 10 (v := ?_) rfl (by kernel_rfl) (by kernel_rfl) (by kernel_rfl) (by kernel_rfl) (fun _ _ _ h => h) (by kernel_rfl) ?_ (by assumption) ?_; rotate_left; (focus (intro w hSw; (try dsimp only at hSw); (try go_split_ands); go_simp <;> with_reducible rfl)); try simp only [Act.put, List.setIfInBounds_toArray, List.set_cons_zero, List.set_cons_succ]
        refine takeM 11 (v := ?_) rfl (by kernel_rfl) (by kernel_rfl) (by kernel_rfl) (by kernel_rfl) (fun _ _ _ h => h) (by kernel_rfl) ?_ (by assumption) ?_; rotate_left; (focus (intro w hSw; (try dsimp only at hSw); (try go_split_ands); go_simp <;> with_reducible rfl)); try simp only [Act.put, List.setIfInBounds_toArray, List.set_cons_zero, List.set_cons_succ]
        refine freeM 12 rfl (by kernel_rfl) (by kernel_rfl) (by kernel_rfl) (fun K hK => ?_); (try go_simp)
        generalize hwx : World.setCell (World.setCell (World.setCell (World.setCell w4 _ _) _ _) _ _) _ _ = wx; obtain ⟨hx1, hx2⟩ := Bx.putk4 HB4.out hwx; clear hwx; have y0 := hx1.cell 0 _ rfl; have y1 := hx1.cell 1 _ rfl; have y2 := hx1.cell 2 _ rfl; have y3 := hx1.cell 3 _ rfl; have ex := hx2.to_ext (b := w) (x2.trans e5) (fun k hk => by show k ≠ _; omega)
        refine hK.out _ _ ?_
        clear hK K
        try simp only [Act.put, List.setIfInBounds_toArray, List.set_cons_zero, List.set_cons_succ]
        refine freeM 13 rfl (by kernel_rfl) (by kernel_rfl) (by kernel_rfl) (fun K hK => ?_); (try go_simp)
        refine hK.out _ _ ?_
        clear hK K
        try simp only [Act.put, List.setIfInBounds_toArray, List.set_cons_zero, List.set_cons_succ]
        refine doneM (by kernel_rfl) ?_
        go_wp2_with fail
        have hb0 := fV_i64 s0
        have hb1 := fV_i64 s1
        refine bodyPost_ret (v := .tuple #[.agg (Rep.cells ⟨fV s0, fV s1, s2, ⟨sA, ll - 3, cap5 - 3, lr⟩⟩).toArray, .int .i64 0]) (by simp [results, Tryd.results18, go_sem, Rep.cells, Sl.val, *]) rfl ⟨⟨_, rfl, rfl, ?_⟩, ex.drew⟩
        refine ⟨⟨by show -9223372036854775808 ≤ fV s0; omega, by show fV s0 ≤ 9223372036854775807; omega⟩, ⟨by show -9223372036854775808 ≤ fV s1; omega, by show fV s1 ≤ 9223372036854775807; omega⟩, by have := HLL.out; show ll - 3 = lr.length; omega, by show ll - 3 ≤ cap5 - 3; omega, by show cap5 - 3 ≤ maxLen; unfold maxLen; omega, ?_⟩
        exact ((HRl.out.keep_ok hx2 (Nat.le_refl _) (fun b h1 h2 => by show b ≠ _; have := Z1.out; omega)).more e1.size hx2.size).drew
    · have hpn : pv = none := by
        have := HV.out
        rw [if_pos rfl, repOf_len _ (by omega)] at this
        exact this
      subst hpn
      have h9b : decide ((l.length : Int) < 3) = true := by simp; omega
      have h9c : (l.length : Int) < 3 := by omega
      clear h9 HV HSz
      go_wp2_with fail
      generalize hwx : World.setCell (World.setCell (World.setCell (World.setCell w2 _ _) _ _) _ _) _ _ = wx; obtain ⟨hx1, hx2⟩ := Bx.putk4 HB2.out hwx; clear hwx; have y0 := hx1.cell 0 _ rfl; have y1 := hx1.cell 1 _ rfl; have y2 := hx1.cell 2 _ rfl; have y3 := hx1.cell 3 _ rfl; have ex := hx2.to_ext (b := w) x2 (fun k hk => by show k ≠ _; omega)
      exact bodyPost_ret (v := .tuple #[.agg Rep.zero.cells.toArray, .int .i64 33]) (by simp [results, Tryd.results18, go_sem, Rep.zero, Rep.cells, Sl.val, *]) rfl ⟨rfl, ex⟩
  · have hpn : pv = none := by
      have := HV.out
      rw [if_neg h0] at this
      exact this
    subst hpn
    have hr1 : (r1 != 0) = true := by simp [bne, h0]
    clear h0 HV HSz
    go_wp2_with fail
    generalize hwx : World.setCell (World.setCell (World.setCell (World.setCell w2 _ _) _ _) _ _) _ _ = wx; obtain ⟨hx1, hx2⟩ := Bx.putk4 HB2.out hwx; clear hwx; have y0 := hx1.cell 0 _ rfl; have y1 := hx1.cell 1 _ rfl; have y2 := hx1.cell 2 _ rfl; have y3 := hx1.cell 3 _ rfl; have ex := hx2.to_ext (b := w) x2 (fun k hk => by show k ≠ _; omega)
    exact bodyPost_ret (v := .tuple #[.agg Rep.zero.cells.toArray, .int .i64 33]) (by simp [results, Tryd.results18, go_sem, Rep.zero, Rep.cells, Sl.val, *]) rfl ⟨rfl, ex⟩
end Go.Proofs.YtpbbjmfhcgcldaaDoor
