/- The texts Rdd, Par in one file. -/
import Derived.Test.YtckaneapjpiocaaGreatDoorM14
import Derived.Test.YtckaneapjpiocaaGreatDoorM15
import Derived.Test.YtckaneapjpiocaaGreatDoorM1
import Derived.Test.YtckaneapjpiocaaGreatDoorM8
import Derived.Test.YtckaneapjpiocaaGreatDoorM2
namespace Go.Proofs.YtckaneapjpiocaaGreatDoor
open Go.RowKit
set_option linter.unusedVariables false
set_option linter.unusedSimpArgs false
section
variable {P : Program} {l rest : List Oper} {Q : Exit → Act → World → Prop} {md : Region.Mode} {S : World → Prop} {m : Nat → Bool} {oi : Oper} {fuel : Nat} {listed : Array Bool} {a : Act} {w : World}
theorem skipPM (i : Nat) (hn : l.drop i = oi :: rest) (hs : Region.noSelect l.toArray = true) (hf : Region.free md l.toArray listed i = true) (hr : (Region.ready md l.toArray listed).contains i = true) (hp : m i = false)
    (hQ : ∀ c a w, Q (.panic c) (a.put oi.dst undef) w → Q (.panic c) a w) (hw : Region.wanted oi (yielded l.toArray a.tmps) = false) (hS : MoreM m listed → S w)
    (h : wpAnyM P md l.toArray Q S m fuel (listed.setIfInBounds i true) (a.put oi.dst undef) w) : wpAnyM P md l.toArray Q S m (fuel + 1) listed a w :=
  wpAnyM_pure (at_drop hn) (Region.noSelect_spec hs) hQ fuel listed a w (Region.free_spec (at_drop hn) hf) hp (by simpa using hr) (Or.inr ⟨hw, rfl⟩) hS h
end
abbrev RSt := List ByteArray × Bool
def stT (s : RSt) : ByteArray × RSt := match s.1 with
  | [] => (⟨#[]⟩, [], false)
  | x :: r => (x, r, s.2)
def stN (s : RSt) : Int × RSt := (fV (stT s).1, (stT s).2.1, (stT s).2.2 && fE (stT s).1 == 0)
theorem stT_len (s : RSt) : (stT s).2.1.length ≤ s.1.length := by
  obtain ⟨l, b⟩ := s
  cases l <;> simp [stT]
theorem stN_len (s : RSt) : (stN s).2.1.length ≤ s.1.length := stT_len s
theorem rdT_st (x : Rdr) : rdT x = stT (x.ts, x.ok) := by
  obtain ⟨A, c, ts, ok⟩ := x
  cases ts <;> rfl
theorem rdN_st (x : Rdr) : rdN x = stN (x.ts, x.ok) := by rw [rdN, stN, rdT_st]
def pairs : List ByteArray → List Prp × Bool
  | [] => ([], true)
  | [s] => ([⟨s, ⟨#[]⟩⟩], false)
  | s :: v :: r => (⟨s, v⟩ :: (pairs r).1, (pairs r).2)
def emptyB (l : List ByteArray) : Bool := l.length == 0
def readA (k : Int) (ts : List ByteArray) : Rec :=
  if k = 1 then ⟨1, (stT (ts, true)).1, (stN (stT (ts, true)).2).1, (stN (stN (stT (ts, true)).2).2).1, none, 0, 0, if (stN (stN (stT (ts, true)).2).2).2.2 then (pairs (stN (stN (stT (ts, true)).2).2).2.1).1 else [], 0, 0, ⟨#[]⟩, 0, 0, 0, 0⟩
  else if k = 2 then ⟨2, ⟨#[]⟩, 0, 0, none, 0, 0, [], (stN (ts, true)).1, 0, (stT (stN (ts, true)).2).1, 0, 0, 0, 0⟩
  else if k = 3 then ⟨3, ⟨#[]⟩, 0, 0, none, 0, 0, [], (stN (ts, true)).1, (stN (stN (ts, true)).2).1, ⟨#[]⟩, 0, 0, 0, 0⟩
  else ⟨k, ⟨#[]⟩, 0, 0, none, 0, 0, [], 0, 0, ⟨#[]⟩, (sumOf (stT (ts, true)).1.data.toList).a, (sumOf (stT (ts, true)).1.data.toList).b, (sumOf (stT (ts, true)).1.data.toList).c, (sumOf (stT (ts, true)).1.data.toList).d⟩
def readB (k : Int) (ts : List ByteArray) : Bool :=
  if k = 1 then (stN (stN (stT (ts, true)).2).2).2.2 && (pairs (stN (stN (stT (ts, true)).2).2).2.1).2
  else if k = 2 then (stT (stN (ts, true)).2).2.2 && emptyB (stT (stN (ts, true)).2).2.1
  else if k = 3 then (stN (stN (ts, true)).2).2.2 && emptyB (stN (stN (ts, true)).2).2.1
  else ((stT (ts, true)).2.2 && sumE (stT (ts, true)).1.data.toList == 0) && emptyB (stT (ts, true)).2.1
def rdLen (b : Nat) (w : World) : Nat := match w.cell? ⟨b, 0, none⟩ with
  | some (.slice _ n _) => n
  | _ => 0
theorem rdLen_of {b : Nat} {w : World} {x : Rdr} (h : Bx w b x.cells) : rdLen b w = x.ts.length := by
  rw [rdLen, h.cell 0 _ rfl]
def RdRel (ts3 : List ByteArray) (ok3 : Bool) (y : Rdr) (O : List Prp) : Prop :=
  (y.ok = true ∧ ok3 = true ∧ O ++ (pairs y.ts).1 = (pairs ts3).1 ∧ (pairs y.ts).2 = (pairs ts3).2) ∨ (y.ok = false ∧ ok3 = true ∧ O = (pairs ts3).1 ∧ (pairs ts3).2 = false) ∨ (y.ok = false ∧ ok3 = false ∧ O = [])
def RcOut (w : World) (A : Rec) (ok : Bool) (e : Ending) (w' : World) : Prop :=
  ∃ y : Rec, e = .returned (.tuple #[.agg y.cells.toArray, .bool ok]) ∧ y.bare = A ∧ y.on = y.own.length ∧ Rd w' w.heap.size w'.heap.size y.oA (prps y.own) ∧ Ext w w'
set_option maxRecDepth 100000 in
set_option maxHeartbeats 8000000 in
theorem rread2_any (w : World) (k : Int) (A : Option Addr) (n c : Nat) (ts : List ByteArray) (hn : n = ts.length) (hx : Rdr.may w ⟨A, c, ts, true⟩) (hk : -9223372036854775808 ≤ k ∧ k ≤ 9223372036854775807) (hs : ts.length ≤ 2000) (hz : ∀ s ∈ ts, s.size ≤ 1000000) :
    Calls Tryz.prog 157 #[.int .i64 k, .slice A n c] w (RcOut w (readA k ts) (readB k ts)) := by
  subst hn
  have HA := Lib.hid (show readA k ts = _ from rfl)
  have HB := Lib.hid (show readB k ts = _ from rfl)
  have HX := Lib.hid hx
  have HZ := Lib.hid hz
  clear hx hz
  go_enter Tryz.func157, Tryz.ntmps157
  go_upto_region 1 with fail
  generalize hwH : World.alloc w _ = w1; have HH := Lib.hid (Heap.one hwH); clear hwH
  go_upto_region 2 with fail
  go_simp; generalize hwA : World.alloc _ _ = w2; have HH2 := Lib.hid ((HH).out.allocE hwA); clear hwA HH
  have HH := HH2
  clear HH2
  go_upto_region 3 with fail
  go_simp; generalize hwA : World.alloc _ _ = w3; have HH2 := Lib.hid ((HH).out.allocE hwA); clear hwA HH
  have HH := HH2
  clear HH2
  by_cases k1 : k = 1
  · subst k1
    have HA2 := Lib.hid (show readA 1 ts = ⟨1, (stT (ts, true)).1, (stN (stT (ts, true)).2).1, (stN (stN (stT (ts, true)).2).2).1, none, 0, 0, if (stN (stN (stT (ts, true)).2).2).2.2 then (pairs (stN (stN (stT (ts, true)).2).2).2.1).1 else [], 0, 0, ⟨#[]⟩, 0, 0, 0, 0⟩ from rfl)
    have HB2 := Lib.hid (show readB 1 ts = ((stN (stN (stT (ts, true)).2).2).2.2 && (pairs (stN (stN (stT (ts, true)).2).2).2.1).2) from rfl)
    clear HA HB
    generalize readA 1 ts = RA at *
    generalize readB 1 ts = RB at *
    go_upto_region 7 with fail
    go_wp2_with fail
    refine (rtext2_any _ HH.out _ 1 ⟨A, c, ts, true⟩ rfl HX.out).mono ?_; rintro e wa ⟨y1, rfl, y1t, y1o, y1m, y1h⟩; have HH1 := Lib.hid y1h; have y1M := Lib.hid y1m; clear HH y1h y1m; have HH := HH1; clear HH1
    go_wp2_with fail
    refine (rnum2_any _ HH.out _ 1 y1 rfl y1M.out).mono ?_; rintro e wb ⟨y2, rfl, y2t, y2o, y2m, y2h⟩; have HH1 := Lib.hid y2h; have y2M := Lib.hid y2m; clear HH y2h y2m; have HH := HH1; clear HH1
    go_wp2_with fail
    refine (rnum2_any _ HH.out _ 1 y2 rfl y2M.out).mono ?_; rintro e wc ⟨y3, rfl, y3t, y3o, y3m, y3h⟩; have HH1 := Lib.hid y3h; have y3M := Lib.hid y3m; clear HH y3h y3m; have HH := HH1; clear HH1
    rw [rdT_st] at y1t y1o
    rw [rdN_st, y1t, y1o] at y2t y2o
    rw [rdN_st, y2t, y2o] at y3t y3o
    have HV1 := Lib.hid (congrArg Prod.fst (rdT_st ⟨A, c, ts, true⟩))
    have HV2 := Lib.hid (show (rdN y1).1 = (stN (stT (ts, true)).2).1 by rw [rdN_st, y1t, y1o])
    have HV3 := Lib.hid (show (rdN y2).1 = (stN (stN (stT (ts, true)).2).2).1 by rw [rdN_st, y2t, y2o])
    generalize (rdT ⟨A, c, ts, true⟩).1 = v1 at *
    generalize (rdN y1).1 = v2 at *
    generalize (rdN y2).1 = v3 at *
    have hl3 : y3.ts.length ≤ 2000 := by
      rw [y3t]
      exact Nat.le_trans (stN_len _) (Nat.le_trans (stN_len _) (Nat.le_trans (stT_len _) hs))
    go_upto_region 8 with (refine shl_store1 HH.out rfl rfl rfl rfl 0 rfl rfl rfl (by kernel_rfl) ?_; clear HH; intro wS HHS; have HH := Lib.hid HHS; clear HHS)
    have HH2 := Lib.hid (HH.out.row0 (e := 160) (size := 2))
    clear HH
    obtain ⟨A3, c3, ts3, ok3⟩ := y3
    dsimp only at y3t y3o hl3
    have HF := Lib.hid (show RA = ⟨1, v1, v2, v3, none, 0, 0, if ok3 then (pairs ts3).1 else [], 0, 0, ⟨#[]⟩, 0, 0, 0, 0⟩ by rw [HA2.out, HV1.out, HV2.out, HV3.out, y3t, y3o])
    have HB3 := Lib.hid (show RB = (ok3 && (pairs ts3).2) by rw [HB2.out, y3t, y3o])
    have HL3 := Lib.hid hl3
    clear HA2 HB2 HV1 HV2 HV3 y1t y1o y2t y2o y3t y3o y1M y2M hl3 HX HZ
    have HR0 := Lib.hid (show RdRel ts3 ok3 ⟨A3, c3, ts3, ok3⟩ [] by
      cases ok3 with
      | true => exact .inl ⟨rfl, rfl, rfl, rfl⟩
      | false => exact .inr (.inr ⟨rfl, rfl, rfl⟩))
    go_frame
    go_loopw [58] (fun _ wr => ∃ (y : Rdr) (O : List Prp) (v : Value), Hid (y.may w) ∧ Hid (RdRel ts3 ok3 y O) ∧ O.length + y.ts.length ≤ 2000 ∧ Hid (Heap w [.row 160 2 v O.length (prps O), .box w2.heap.size [.int .i64 1, .string v1, .int .i64 v2, .int .i64 v3, v, .int .i64 0, .int .i64 0, .string ⟨#[]⟩, .int .u64 0, .int .u64 0, .int .u64 0, .int .u64 0], .box w1.heap.size y.cells, .box w.heap.size [.int .i64 0, .string ⟨#[]⟩, .int .i64 0, .int .i64 0, .slice none 0 0, .int .i64 0, .int .i64 0, .string ⟨#[]⟩, .int .u64 0, .int .u64 0, .int .u64 0, .int .u64 0]] wr)) (fun _ wr => rdLen w1.heap.size wr)
    case atStart => exact ⟨⟨A3, c3, ts3, ok3⟩, [], _, y3M, HR0, by have := HL3.out; simpa using this, HH2⟩
    case round =>
      clear HH2 HR0 y3M
      obtain ⟨y, O, v, HM, HRl, hO, HH⟩ := hrel
      obtain ⟨Av, cv, rfl, _, _, _⟩ := own_form (HH.out.rowAt 0 rfl)
      obtain ⟨yA, yc, yts, yok⟩ := y
      dsimp only at hO
      simp only [Rdr.cells] at HH
      cases yok with
      | false =>
        have hb1 : (ok3 && (pairs ts3).2) = false := by
          rcases HRl.out with ⟨h, _⟩ | ⟨_, _, _, h⟩ | ⟨_, h, _⟩
          · cases h
          · rw [h]; simp
          · rw [h]; rfl
        have hb2 : (if ok3 = true then (pairs ts3).1 else []) = O := by
          rcases HRl.out with ⟨h, _⟩ | ⟨_, h, h2, _⟩ | ⟨_, h, h2⟩
          · cases h
          · rw [if_pos h, h2]
          · rw [if_neg (by rw [h]; decide), h2]
        have HB1 := Lib.hid hb1
        have HB4 := Lib.hid hb2
        clear hb1 hb2
        go_upto_region 14 with (refine shl_load1 HH.out rfl rfl rfl 2 rfl rfl (by decide +kernel) ?_)
        have HHd := Lib.hid HH.out.drew; clear HH; refine wp_region_held_drew (S := Heap w [_, _]) (by kernel_rfl) (HHd.out.pair 1 2 rfl rfl rfl) (fun hHeld => ?_); generalize World.drew _ = wd at *; refine takeL 0 rfl (by kernel_rfl) (by kernel_rfl) (by kernel_rfl) (fun _ _ _ h => h) (by kernel_rfl) (fun wT hST => sh_run_load hST sizeRec (by kernel_rfl) rfl rfl 0 rfl (Nat.le_of_ble_eq_true rfl)) hHeld ?_; (try simp only [Act.put, lyA, lyB, lyC]); refine tU 1 rfl (by kernel_rfl) (fun _ _ _ h => h) (by intro w hSw; (try dsimp only at hSw); go_simp <;> with_reducible rfl) (by assumption) ?_; (try simp only [Act.put, lyA, lyB, lyC]); refine tU 2 rfl (by kernel_rfl) (fun _ _ _ h => h) (by intro w hSw; (try dsimp only at hSw); go_simp <;> with_reducible rfl) (by assumption) ?_; (try simp only [Act.put, lyA, lyB, lyC]); refine tU 3 rfl (by kernel_rfl) (fun _ _ _ h => h) (by intro w hSw; (try dsimp only at hSw); go_simp <;> with_reducible rfl) (by assumption) ?_; (try simp only [Act.put, lyA, lyB, lyC]); refine takeL 4 rfl (by kernel_rfl) (by kernel_rfl) (by kernel_rfl) (fun _ _ _ h => h) (by kernel_rfl) (fun wT hST => sh_run_load1 hST rfl rfl 1 rfl rfl (by kernel_rfl)) hHeld ?_; (try simp only [Act.put, lyA, lyB, lyC]); refine tU 5 rfl (by kernel_rfl) (fun _ _ _ h => h) (by intro w hSw; (try dsimp only at hSw); go_simp <;> with_reducible rfl) (by assumption) ?_; (try simp only [Act.put, lyA, lyB, lyC]); refine sU 6 rfl (by kernel_rfl) (fun _ _ _ h => h) (by assumption) ?_; (try simp only [Act.put, lyA, lyB, lyC]); refine sU 7 rfl (by kernel_rfl) (fun _ _ _ h => h) (by assumption) ?_; (try simp only [Act.put, lyA, lyB, lyC]); refine sU 8 rfl (by kernel_rfl) (fun _ _ _ h => h) (by assumption) ?_; (try simp only [Act.put, lyA, lyB, lyC]); refine sU 9 rfl (by kernel_rfl) (fun _ _ _ h => h) (by assumption) ?_; (try simp only [Act.put, lyA, lyB, lyC]); refine sU 10 rfl (by kernel_rfl) (fun _ _ _ h => h) (by assumption) ?_; (try simp only [Act.put, lyA, lyB, lyC]); refine sU 11 rfl (by kernel_rfl) (fun _ _ _ h => h) (by assumption) ?_; (try simp only [Act.put, lyA, lyB, lyC]); refine tU 12 rfl (by kernel_rfl) (fun _ _ _ h => h) (by intro w hSw; (try dsimp only at hSw); go_simp <;> with_reducible rfl) (by assumption) ?_; (try simp only [Act.put, lyA, lyB, lyC]); clear hHeld; refine oneL 13 rfl (by kernel_rfl) (by kernel_rfl) (fun K hK => ?_); refine sh_store HHd.out sizeRec rfl rfl rfl 3 rfl rfl (Nat.le_of_ble_eq_true rfl) rfl ?_; intro w9 hh9; have HH := Lib.hid hh9; clear hh9 HHd; refine hK.out _ _ (HH.out.pair 1 2 rfl rfl rfl) (fun hHeld => ?_); clear hK K; (try simp only [Act.put, lyA, lyB, lyC]); refine tU 14 rfl (by kernel_rfl) (fun _ _ _ h => h) (by intro w hSw; (try dsimp only at hSw); go_simp <;> with_reducible rfl) (by assumption) ?_; (try simp only [Act.put, lyA, lyB, lyC]); refine wpAnyH_done (by kernel_rfl) ?_ _; go_wp2_with fail; refine ret_cell2 sizeRec (by kernel_rfl) HH.out rfl rfl rfl 3 rfl rfl rfl ?_
        rw [HF.out, HB3.out]; exact ⟨⟨1, v1, v2, v3, Av, O.length, cv, O, 0, 0, ⟨#[]⟩, 0, 0, 0, 0⟩, by rw [HB1.out]; rfl, by simp only [Rec.bare]; rw [HB4.out], rfl, (Rd.of_own (HH.out.rowAt 0 rfl)).more (Nat.le_refl _) (Nat.le_refl _), HH.out.ext⟩
      | true =>
        cases yts with
        | nil =>
          have hb1 : (ok3 && (pairs ts3).2) = true := by
            rcases HRl.out with ⟨_, h, _, h2⟩ | ⟨h, _⟩ | ⟨h, _⟩
            · rw [h, ← h2]; rfl
            · cases h
            · cases h
          have hb2 : (if ok3 = true then (pairs ts3).1 else []) = O := by
            rcases HRl.out with ⟨_, h, h2, _⟩ | ⟨h, _⟩ | ⟨h, _⟩
            · rw [if_pos h, ← h2]; simp [pairs]
            · cases h
            · cases h
          have HB1 := Lib.hid hb1
          have HB4 := Lib.hid hb2
          clear hb1 hb2
          simp only [List.length_nil] at HH
          go_upto_region 14 with (first | (refine shl_load1 HH.out rfl rfl rfl 2 rfl rfl (by decide +kernel) ?_) | (go_big_want; refine sh_load1 HH.out rfl rfl 2 rfl rfl (by decide +kernel) ?_))
          have HHd := Lib.hid HH.out.drew; clear HH; refine wp_region_held_drew (S := Heap w [_, _]) (by kernel_rfl) (HHd.out.pair 1 2 rfl rfl rfl) (fun hHeld => ?_); generalize World.drew _ = wd at *; refine takeL 0 rfl (by kernel_rfl) (by kernel_rfl) (by kernel_rfl) (fun _ _ _ h => h) (by kernel_rfl) (fun wT hST => sh_run_load hST sizeRec (by kernel_rfl) rfl rfl 0 rfl (Nat.le_of_ble_eq_true rfl)) hHeld ?_; (try simp only [Act.put, lyA, lyB, lyC]); refine tU 1 rfl (by kernel_rfl) (fun _ _ _ h => h) (by intro w hSw; (try dsimp only at hSw); go_simp <;> with_reducible rfl) (by assumption) ?_; (try simp only [Act.put, lyA, lyB, lyC]); refine tU 2 rfl (by kernel_rfl) (fun _ _ _ h => h) (by intro w hSw; (try dsimp only at hSw); go_simp <;> with_reducible rfl) (by assumption) ?_; (try simp only [Act.put, lyA, lyB, lyC]); refine tU 3 rfl (by kernel_rfl) (fun _ _ _ h => h) (by intro w hSw; (try dsimp only at hSw); go_simp <;> with_reducible rfl) (by assumption) ?_; (try simp only [Act.put, lyA, lyB, lyC]); refine takeL 4 rfl (by kernel_rfl) (by kernel_rfl) (by kernel_rfl) (fun _ _ _ h => h) (by kernel_rfl) (fun wT hST => sh_run_load1 hST rfl rfl 1 rfl rfl (by kernel_rfl)) hHeld ?_; (try simp only [Act.put, lyA, lyB, lyC]); refine tU 5 rfl (by kernel_rfl) (fun _ _ _ h => h) (by intro w hSw; (try dsimp only at hSw); go_simp <;> with_reducible rfl) (by assumption) ?_; (try simp only [Act.put, lyA, lyB, lyC]); refine tU 6 rfl (by kernel_rfl) (fun _ _ _ h => h) (by intro w hSw; (try dsimp only at hSw); go_simp <;> with_reducible rfl) (by assumption) ?_; (try simp only [Act.put, lyA, lyB, lyC]); refine tU 7 rfl (by kernel_rfl) (fun _ _ _ h => h) (by intro w hSw; (try dsimp only at hSw); go_simp <;> with_reducible rfl) (by assumption) ?_; (try simp only [Act.put, lyA, lyB, lyC]); refine tU 8 rfl (by kernel_rfl) (fun _ _ _ h => h) (by intro w hSw; (try dsimp only at hSw); go_simp <;> with_reducible rfl) (by assumption) ?_; (try simp only [Act.put, lyA, lyB, lyC]); refine takeL 9 rfl (by kernel_rfl) (by kernel_rfl) (by kernel_rfl) (fun _ _ _ h => h) (by kernel_rfl) (fun wT hST => sh_run_load1 hST rfl rfl 1 rfl rfl (by kernel_rfl)) hHeld ?_; (try simp only [Act.put, lyA, lyB, lyC]); refine tU 10 rfl (by kernel_rfl) (fun _ _ _ h => h) (by intro w hSw; (try dsimp only at hSw); go_simp <;> with_reducible rfl) (by assumption) ?_; (try simp only [Act.put, lyA, lyB, lyC]); refine tU 11 rfl (by kernel_rfl) (fun _ _ _ h => h) (by intro w hSw; (try dsimp only at hSw); go_simp <;> with_reducible rfl) (by assumption) ?_; (try simp only [Act.put, lyA, lyB, lyC]); refine tU 12 rfl (by kernel_rfl) (fun _ _ _ h => h) (by intro w hSw; (try dsimp only at hSw); go_simp <;> with_reducible rfl) (by assumption) ?_; (try simp only [Act.put, lyA, lyB, lyC]); clear hHeld; refine oneL 13 rfl (by kernel_rfl) (by kernel_rfl) (fun K hK => ?_); refine sh_store HHd.out sizeRec rfl rfl rfl 3 rfl rfl (Nat.le_of_ble_eq_true rfl) rfl ?_; intro w9 hh9; have HH := Lib.hid hh9; clear hh9 HHd; refine hK.out _ _ (HH.out.pair 1 2 rfl rfl rfl) (fun hHeld => ?_); clear hK K; (try simp only [Act.put, lyA, lyB, lyC]); refine tU 14 rfl (by kernel_rfl) (fun _ _ _ h => h) (by intro w hSw; (try dsimp only at hSw); go_simp <;> with_reducible rfl) (by assumption) ?_; (try simp only [Act.put, lyA, lyB, lyC]); refine wpAnyH_done (by kernel_rfl) ?_ _; go_wp2_with fail; refine ret_cell2 sizeRec (by kernel_rfl) HH.out rfl rfl rfl 3 rfl rfl rfl ?_
          rw [HF.out, HB3.out]; exact ⟨⟨1, v1, v2, v3, Av, O.length, cv, O, 0, 0, ⟨#[]⟩, 0, 0, 0, 0⟩, by rw [HB1.out]; rfl, by simp only [Rec.bare]; rw [HB4.out], rfl, (Rd.of_own (HH.out.rowAt 0 rfl)).more (Nat.le_refl _) (Nat.le_refl _), HH.out.ext⟩
        | cons s r =>
          have HM0 := Lib.hid (show rdLen w1.heap.size wr = r.length + 1 from rdLen_of (x := ⟨yA, yc, s :: r, true⟩) (HH.out.boxAt 2 rfl))
          obtain ⟨i0, hi0, hz0, hz1, hz2⟩ := info_parts infoP
          simp only [List.length_cons] at HH
          go_upto_region 9 with (first | (refine shl_load1 HH.out rfl rfl rfl 2 rfl rfl (by decide +kernel) ?_) | (go_big_want; refine sh_load1 HH.out rfl rfl 2 rfl rfl (by decide +kernel) ?_))
          have HHd := Lib.hid HH.out.drew
          clear HH
          refine rgnM (fun k => Nat.blt k 9) (S := Heap w [_]) (by kernel_rfl) (HHd.out.only 1 rfl) (fun hHeld => ?_)
          generalize World.drew wr = wd at *
          refine takeM 0 (v := ?_) rfl (by kernel_rfl) (by kernel_rfl) (by kernel_rfl) (by kernel_rfl) (fun _ _ _ h => h) (by kernel_rfl) ?_ (by assumption) ?_; rotate_left; (focus (intro w hSw; (try dsimp only at hSw); (try go_split_ands); go_simp <;> with_reducible rfl)); (try simp only [Act.put, lyA, lyB, lyC])
          refine takeM 1 rfl (by kernel_rfl) (by kernel_rfl) (by kernel_rfl) (by kernel_rfl) (fun _ _ _ h => h) (by kernel_rfl) (fun wT hST => sh_run_load1 hST rfl rfl 0 rfl rfl (by kernel_rfl)) hHeld ?_; (try simp only [Act.put, lyA, lyB, lyC])
          refine takeM 2 (v := ?_) rfl (by kernel_rfl) (by kernel_rfl) (by kernel_rfl) (by kernel_rfl) (fun _ _ _ h => h) (by kernel_rfl) ?_ (by assumption) ?_; rotate_left; (focus (intro w hSw; (try dsimp only at hSw); (try go_split_ands); go_simp <;> with_reducible rfl)); (try simp only [Act.put, lyA, lyB, lyC])
          refine takeM 4 (v := ?_) rfl (by kernel_rfl) (by kernel_rfl) (by kernel_rfl) (by kernel_rfl) (fun _ _ _ h => h) (by kernel_rfl) ?_ (by assumption) ?_; rotate_left; (focus (intro w hSw; (try dsimp only at hSw); (try go_split_ands); go_simp <;> with_reducible rfl)); (try simp only [Act.put, lyA, lyB, lyC])
          clear hHeld
          refine oneM 3 rfl (by kernel_rfl) (by kernel_rfl) (fun K hK => ?_)
          go_simp
          refine (rtext2_any _ HHd.out _ 2 ⟨yA, yc, s :: r, true⟩ rfl HM.out).mono ?_
          rintro e wa ⟨⟨A1, c1, ts1, ok1⟩, rfl, y1t, y1o, y1m, y1h⟩
          rw [show (rdT ⟨yA, yc, s :: r, true⟩).1 = s from rfl]
          obtain rfl : ts1 = r := y1t
          obtain rfl : ok1 = true := y1o
          have HH1 := Lib.hid y1h
          have HM1 := Lib.hid y1m
          clear y1h y1m HHd HM
          go_wp2_with fail
          refine hK.out _ _ (HH1.out.only 1 rfl) (fun hHeld => ?_)
          clear hK K
          (try simp only [Act.put, lyA, lyB, lyC])
          clear hHeld
          refine oneM 5 rfl (by kernel_rfl) (by kernel_rfl) (fun K hK => ?_)
          go_simp
          refine (rtext2_any _ HH1.out _ 2 ⟨A1, c1, ts1, true⟩ rfl HM1.out).mono ?_
          rintro e wb ⟨y2, rfl, y2t, y2o, y2m, y2h⟩
          have HH2 := Lib.hid y2h
          have HM2 := Lib.hid y2m
          rw [rdT_st] at y2t y2o
          have HVx := Lib.hid (congrArg Prod.fst (rdT_st ⟨A1, c1, ts1, true⟩))
          dsimp only at y2t y2o HVx
          generalize (rdT ⟨A1, c1, ts1, true⟩).1 = x2 at *
          clear y2h y2m HH1 HM1
          go_wp2_with fail
          refine hK.out _ _ (HH2.out.only 1 rfl) (fun hHeld => ?_)
          clear hK K
          (try simp only [Act.put, lyA, lyB, lyC])
          refine takeM 6 (v := ?_) rfl (by kernel_rfl) (by kernel_rfl) (by kernel_rfl) (by kernel_rfl) (fun _ _ _ h => h) (by kernel_rfl) ?_ (by assumption) ?_; rotate_left; (focus (intro w hSw; (try dsimp only at hSw); (try go_split_ands); go_simp <;> with_reducible rfl)); (try simp only [Act.put, lyA, lyB, lyC])
          clear hHeld
          refine oneM 7 rfl (by kernel_rfl) (by kernel_rfl) (fun K hK => ?_)
          go_simp; generalize hwA : World.alloc _ _ = wc; have HH3 := Lib.hid ((HH2).out.allocE hwA); clear hwA HH2
          refine hK.out _ _ (HH3.out.only 2 rfl) (fun hHeld => ?_)
          clear hK K
          (try simp only [Act.put, lyA, lyB, lyC])
          clear hHeld
          refine oneM 8 rfl (by kernel_rfl) (by kernel_rfl) (fun K hK => ?_)
          refine sh_app (.tmp 60) (.tmp 66) _ rfl Tryz.underlying41 hi0 hz0 hz1 hz2 rfl (by omega) HH3.out 1 rfl rfl (m := 1) rfl rfl (HH3.out.boxRd 0 rfl) (by simp [Value.oneCell']) (by simp only [maxLen, List.length_cons] at *; omega) (by simp only [List.length_cons] at hO; omega) ?_
          rintro v5 w5 hh5 ⟨A5, c5, rfl⟩
          have HH5 := Lib.hid hh5
          clear hh5 HH3
          refine hK.out _ _ (HH5.out.only 2 rfl) (fun hHeld => ?_)
          clear hK K
          (try simp only [Act.put, lyA, lyB, lyC])
          refine pureM 9 (v := ?_) rfl (by kernel_rfl) (by kernel_rfl) (by kernel_rfl) (by kernel_rfl) (fun _ _ _ h => h) (by kernel_rfl) ?_ (fun _ => by assumption) ?_; rotate_left; (focus (intro w; go_simp <;> with_reducible rfl)); (try simp only [Act.put, lyA, lyB, lyC])
          refine freeM 10 rfl (by kernel_rfl) (by kernel_rfl) (by kernel_rfl) (fun K hK => ?_)
          refine sh_store1 HH5.out rfl rfl rfl 2 rfl (Nat.le_of_ble_eq_true rfl) rfl (by kernel_rfl) ?_
          intro w8 h8
          refine hK.out _ _ ?_
          clear hK K hHeld
          (try simp only [Act.put, lyA, lyB, lyC])
          refine doneM (by kernel_rfl) ?_
          have HH8 := Lib.hid h8.tail
          clear HH5 h8
          have hrel2 : RdRel ts3 ok3 y2 (O ++ [⟨s, x2⟩]) := by
            obtain ⟨h0, h1, h2⟩ : ok3 = true ∧ O ++ (pairs (s :: ts1)).1 = (pairs ts3).1 ∧ (pairs (s :: ts1)).2 = (pairs ts3).2 := by
              rcases HRl.out with ⟨_, h, h1, h2⟩ | ⟨h, _⟩ | ⟨h, _⟩
              · exact ⟨h, h1, h2⟩
              · cases h
              · cases h
            have hx := HVx.out
            cases ts1 with
            | nil => exact .inr (.inl ⟨y2o, h0, by rw [← h1, hx]; rfl, by rw [← h2]; rfl⟩)
            | cons v' r2 => exact .inl ⟨y2o, h0, by rw [← h1, hx, y2t]; simp [pairs, stT], by rw [← h2, y2t]; rfl⟩
          have hlen2 : y2.ts.length ≤ ts1.length := by
            rw [y2t]
            cases ts1 <;> simp [stT]
          have HRl2 := Lib.hid hrel2
          have hO2 : (O ++ [(⟨s, x2⟩ : Prp)]).length + y2.ts.length ≤ 2000 := by
            simp only [List.length_append, List.length_cons, List.length_nil] at hO ⊢
            omega
          clear hrel2 HRl
          go_wp2_with fail
          go_roundw
          case rel =>
            refine ⟨y2, O ++ [⟨s, x2⟩], .slice A5 (O.length + 1) c5, HM2, HRl2, hO2, ?_⟩
            rw [show prps (O ++ [(⟨s, x2⟩ : Prp)]) = prps O ++ [.string s, .string x2] by simp [prps, Prp.cells], show (O ++ [(⟨s, x2⟩ : Prp)]).length = O.length + 1 by simp]
            exact HH8
          case measure =>
            have h9 := rdLen_of (x := y2) (HH8.out.boxAt 2 rfl)
            have h10 := HM0.out
            omega
  · have hk1 : (k == 1) = false := by simpa using k1
    by_cases k2 : k = 2
    · subst k2
      have HA2 := Lib.hid (show readA 2 ts = ⟨2, ⟨#[]⟩, 0, 0, none, 0, 0, [], (stN (ts, true)).1, 0, (stT (stN (ts, true)).2).1, 0, 0, 0, 0⟩ from rfl)
      have HB2 := Lib.hid (show readB 2 ts = ((stT (stN (ts, true)).2).2.2 && emptyB (stT (stN (ts, true)).2).2.1) from rfl)
      clear HA HB hk1 k1
      generalize readA 2 ts = RA at *
      generalize readB 2 ts = RB at *
      go_upto_region 11 with fail
      go_wp2_with fail
      refine (rnum2_any _ HH.out _ 1 ⟨A, c, ts, true⟩ rfl HX.out).mono ?_; rintro e wa ⟨y1, rfl, y1t, y1o, y1m, y1h⟩; have HH1 := Lib.hid y1h; have y1M := Lib.hid y1m; clear HH y1h y1m; have HH := HH1; clear HH1
      go_wp2_with fail
      refine (rtext2_any _ HH.out _ 1 y1 rfl y1M.out).mono ?_; rintro e wb ⟨y2, rfl, y2t, y2o, y2m, y2h⟩; have HH1 := Lib.hid y2h; have y2M := Lib.hid y2m; clear HH y2h y2m; have HH := HH1; clear HH1
      rw [rdN_st] at y1t y1o
      rw [rdT_st, y1t, y1o] at y2t y2o
      have HV1 := Lib.hid (congrArg Prod.fst (rdN_st ⟨A, c, ts, true⟩))
      have HV2 := Lib.hid (show (rdT y1).1 = (stT (stN (ts, true)).2).1 by rw [rdT_st, y1t, y1o])
      go_upto_region 14 with (refine shl_store1 HH.out rfl rfl rfl rfl 0 rfl rfl rfl (by kernel_rfl) ?_; clear HH; intro wS HHS; have HH := Lib.hid HHS; clear HHS)
      generalize (rdN ⟨A, c, ts, true⟩).1 = v1 at *
      generalize (rdT y1).1 = v2 at *
      obtain ⟨A2, c2, ts2, ok2⟩ := y2
      dsimp only at y2t y2o
      rw [← y2t, ← y2o] at HB2
      have HF := Lib.hid (show RA = ⟨2, ⟨#[]⟩, 0, 0, none, 0, 0, [], v1, 0, v2, 0, 0, 0, 0⟩ by rw [HA2.out, HV1.out, HV2.out])
      clear HA2 HV1 HV2 y1t y1o y2t y2o y1M y2M
      simp only [Rdr.cells] at HH
      cases ok2 with
      | false =>
        have HHd := Lib.hid HH.out.drew; clear HH; refine wp_region_held_drew (S := Heap w [_, _]) (by kernel_rfl) (HHd.out.pair 0 1 rfl rfl rfl) (fun hHeld => ?_); generalize World.drew _ = wd at *; refine takeL 0 rfl (by kernel_rfl) (by kernel_rfl) (by kernel_rfl) (fun _ _ _ h => h) (by kernel_rfl) (fun wT hST => sh_run_load hST sizeRec (by kernel_rfl) rfl rfl 0 rfl (Nat.le_of_ble_eq_true rfl)) hHeld ?_; (try simp only [Act.put, lyA, lyB, lyC]); refine tU 1 rfl (by kernel_rfl) (fun _ _ _ h => h) (by intro w hSw; (try dsimp only at hSw); go_simp <;> with_reducible rfl) (by assumption) ?_; (try simp only [Act.put, lyA, lyB, lyC]); refine tU 2 rfl (by kernel_rfl) (fun _ _ _ h => h) (by intro w hSw; (try dsimp only at hSw); go_simp <;> with_reducible rfl) (by assumption) ?_; (try simp only [Act.put, lyA, lyB, lyC]); refine tU 3 rfl (by kernel_rfl) (fun _ _ _ h => h) (by intro w hSw; (try dsimp only at hSw); go_simp <;> with_reducible rfl) (by assumption) ?_; (try simp only [Act.put, lyA, lyB, lyC]); refine takeL 4 rfl (by kernel_rfl) (by kernel_rfl) (by kernel_rfl) (fun _ _ _ h => h) (by kernel_rfl) (fun wT hST => sh_run_load1 hST rfl rfl 1 rfl rfl (by kernel_rfl)) hHeld ?_; (try simp only [Act.put, lyA, lyB, lyC]); refine tU 5 rfl (by kernel_rfl) (fun _ _ _ h => h) (by intro w hSw; (try dsimp only at hSw); go_simp <;> with_reducible rfl) (by assumption) ?_; (try simp only [Act.put, lyA, lyB, lyC]); refine sU 6 rfl (by kernel_rfl) (fun _ _ _ h => h) (by assumption) ?_; (try simp only [Act.put, lyA, lyB, lyC]); refine sU 7 rfl (by kernel_rfl) (fun _ _ _ h => h) (by assumption) ?_; (try simp only [Act.put, lyA, lyB, lyC]); refine sU 8 rfl (by kernel_rfl) (fun _ _ _ h => h) (by assumption) ?_; (try simp only [Act.put, lyA, lyB, lyC]); refine sU 9 rfl (by kernel_rfl) (fun _ _ _ h => h) (by assumption) ?_; (try simp only [Act.put, lyA, lyB, lyC]); refine sU 10 rfl (by kernel_rfl) (fun _ _ _ h => h) (by assumption) ?_; (try simp only [Act.put, lyA, lyB, lyC]); refine sU 11 rfl (by kernel_rfl) (fun _ _ _ h => h) (by assumption) ?_; (try simp only [Act.put, lyA, lyB, lyC]); refine tU 12 rfl (by kernel_rfl) (fun _ _ _ h => h) (by intro w hSw; (try dsimp only at hSw); go_simp <;> with_reducible rfl) (by assumption) ?_; (try simp only [Act.put, lyA, lyB, lyC]); clear hHeld; refine oneL 13 rfl (by kernel_rfl) (by kernel_rfl) (fun K hK => ?_); refine sh_store HHd.out sizeRec rfl rfl rfl 2 rfl rfl (Nat.le_of_ble_eq_true rfl) rfl ?_; intro w9 hh9; have HH := Lib.hid hh9; clear hh9 HHd; refine hK.out _ _ (HH.out.pair 0 1 rfl rfl rfl) (fun hHeld => ?_); clear hK K; (try simp only [Act.put, lyA, lyB, lyC]); refine tU 14 rfl (by kernel_rfl) (fun _ _ _ h => h) (by intro w hSw; (try dsimp only at hSw); go_simp <;> with_reducible rfl) (by assumption) ?_; (try simp only [Act.put, lyA, lyB, lyC]); refine wpAnyH_done (by kernel_rfl) ?_ _; go_wp2_with fail; refine ret_cell2 sizeRec (by kernel_rfl) HH.out rfl rfl rfl 2 rfl rfl rfl ?_
        rw [HF.out, HB2.out]
        exact ⟨⟨2, ⟨#[]⟩, 0, 0, none, 0, 0, [], v1, 0, v2, 0, 0, 0, 0⟩, rfl, rfl, rfl, fun h => absurd rfl h, HH.out.ext⟩
      | true =>
        cases hl : ((ts2.length : Int) == 0) with
        | false =>
          have hl2 : emptyB ts2 = false := by rw [emptyB, beq_eq_false_iff_ne]; simpa using hl
          rw [hl2] at HB2
          have HHd := Lib.hid HH.out.drew; clear HH; refine wp_region_held_drew (S := Heap w [_, _]) (by kernel_rfl) (HHd.out.pair 0 1 rfl rfl rfl) (fun hHeld => ?_); generalize World.drew _ = wd at *; refine takeL 0 rfl (by kernel_rfl) (by kernel_rfl) (by kernel_rfl) (fun _ _ _ h => h) (by kernel_rfl) (fun wT hST => sh_run_load hST sizeRec (by kernel_rfl) rfl rfl 0 rfl (Nat.le_of_ble_eq_true rfl)) hHeld ?_; (try simp only [Act.put, lyA, lyB, lyC]); refine tU 1 rfl (by kernel_rfl) (fun _ _ _ h => h) (by intro w hSw; (try dsimp only at hSw); go_simp <;> with_reducible rfl) (by assumption) ?_; (try simp only [Act.put, lyA, lyB, lyC]); refine tU 2 rfl (by kernel_rfl) (fun _ _ _ h => h) (by intro w hSw; (try dsimp only at hSw); go_simp <;> with_reducible rfl) (by assumption) ?_; (try simp only [Act.put, lyA, lyB, lyC]); refine tU 3 rfl (by kernel_rfl) (fun _ _ _ h => h) (by intro w hSw; (try dsimp only at hSw); go_simp <;> with_reducible rfl) (by assumption) ?_; (try simp only [Act.put, lyA, lyB, lyC]); refine takeL 4 rfl (by kernel_rfl) (by kernel_rfl) (by kernel_rfl) (fun _ _ _ h => h) (by kernel_rfl) (fun wT hST => sh_run_load1 hST rfl rfl 1 rfl rfl (by kernel_rfl)) hHeld ?_; (try simp only [Act.put, lyA, lyB, lyC]); refine tU 5 rfl (by kernel_rfl) (fun _ _ _ h => h) (by intro w hSw; (try dsimp only at hSw); go_simp <;> with_reducible rfl) (by assumption) ?_; (try simp only [Act.put, lyA, lyB, lyC]); refine tU 6 rfl (by kernel_rfl) (fun _ _ _ h => h) (by intro w hSw; (try dsimp only at hSw); go_simp <;> with_reducible rfl) (by assumption) ?_; (try simp only [Act.put, lyA, lyB, lyC]); refine tU 7 rfl (by kernel_rfl) (fun _ _ _ h => h) (by intro w hSw; (try dsimp only at hSw); go_simp <;> with_reducible rfl) (by assumption) ?_; (try simp only [Act.put, lyA, lyB, lyC]); refine tU 8 rfl (by kernel_rfl) (fun _ _ _ h => h) (by intro w hSw; (try dsimp only at hSw); go_simp <;> with_reducible rfl) (by assumption) ?_; (try simp only [Act.put, lyA, lyB, lyC]); refine takeL 9 rfl (by kernel_rfl) (by kernel_rfl) (by kernel_rfl) (fun _ _ _ h => h) (by kernel_rfl) (fun wT hST => sh_run_load1 hST rfl rfl 1 rfl rfl (by kernel_rfl)) hHeld ?_; (try simp only [Act.put, lyA, lyB, lyC]); refine tU 10 rfl (by kernel_rfl) (fun _ _ _ h => h) (by intro w hSw; (try dsimp only at hSw); go_simp <;> with_reducible rfl) (by assumption) ?_; (try simp only [Act.put, lyA, lyB, lyC]); refine tU 11 rfl (by kernel_rfl) (fun _ _ _ h => h) (by intro w hSw; (try dsimp only at hSw); go_simp <;> with_reducible rfl) (by assumption) ?_; (try simp only [Act.put, lyA, lyB, lyC]); refine tU 12 rfl (by kernel_rfl) (fun _ _ _ h => h) (by intro w hSw; (try dsimp only at hSw); go_simp <;> with_reducible rfl) (by assumption) ?_; (try simp only [Act.put, lyA, lyB, lyC]); clear hHeld; refine oneL 13 rfl (by kernel_rfl) (by kernel_rfl) (fun K hK => ?_); refine sh_store HHd.out sizeRec rfl rfl rfl 2 rfl rfl (Nat.le_of_ble_eq_true rfl) rfl ?_; intro w9 hh9; have HH := Lib.hid hh9; clear hh9 HHd; refine hK.out _ _ (HH.out.pair 0 1 rfl rfl rfl) (fun hHeld => ?_); clear hK K; (try simp only [Act.put, lyA, lyB, lyC]); refine tU 14 rfl (by kernel_rfl) (fun _ _ _ h => h) (by intro w hSw; (try dsimp only at hSw); go_simp <;> with_reducible rfl) (by assumption) ?_; (try simp only [Act.put, lyA, lyB, lyC]); refine wpAnyH_done (by kernel_rfl) ?_ _; go_wp2_with fail; refine ret_cell2 sizeRec (by kernel_rfl) HH.out rfl rfl rfl 2 rfl rfl rfl ?_
          rw [HF.out, HB2.out]
          exact ⟨⟨2, ⟨#[]⟩, 0, 0, none, 0, 0, [], v1, 0, v2, 0, 0, 0, 0⟩, rfl, rfl, rfl, fun h => absurd rfl h, HH.out.ext⟩
        | true =>
          have hl2 : emptyB ts2 = true := by rw [emptyB, beq_iff_eq]; simpa using hl
          rw [hl2] at HB2
          have HHd := Lib.hid HH.out.drew; clear HH; refine wp_region_held_drew (S := Heap w [_, _]) (by kernel_rfl) (HHd.out.pair 0 1 rfl rfl rfl) (fun hHeld => ?_); generalize World.drew _ = wd at *; refine takeL 0 rfl (by kernel_rfl) (by kernel_rfl) (by kernel_rfl) (fun _ _ _ h => h) (by kernel_rfl) (fun wT hST => sh_run_load hST sizeRec (by kernel_rfl) rfl rfl 0 rfl (Nat.le_of_ble_eq_true rfl)) hHeld ?_; (try simp only [Act.put, lyA, lyB, lyC]); refine tU 1 rfl (by kernel_rfl) (fun _ _ _ h => h) (by intro w hSw; (try dsimp only at hSw); go_simp <;> with_reducible rfl) (by assumption) ?_; (try simp only [Act.put, lyA, lyB, lyC]); refine tU 2 rfl (by kernel_rfl) (fun _ _ _ h => h) (by intro w hSw; (try dsimp only at hSw); go_simp <;> with_reducible rfl) (by assumption) ?_; (try simp only [Act.put, lyA, lyB, lyC]); refine tU 3 rfl (by kernel_rfl) (fun _ _ _ h => h) (by intro w hSw; (try dsimp only at hSw); go_simp <;> with_reducible rfl) (by assumption) ?_; (try simp only [Act.put, lyA, lyB, lyC]); refine takeL 4 rfl (by kernel_rfl) (by kernel_rfl) (by kernel_rfl) (fun _ _ _ h => h) (by kernel_rfl) (fun wT hST => sh_run_load1 hST rfl rfl 1 rfl rfl (by kernel_rfl)) hHeld ?_; (try simp only [Act.put, lyA, lyB, lyC]); refine tU 5 rfl (by kernel_rfl) (fun _ _ _ h => h) (by intro w hSw; (try dsimp only at hSw); go_simp <;> with_reducible rfl) (by assumption) ?_; (try simp only [Act.put, lyA, lyB, lyC]); refine tU 6 rfl (by kernel_rfl) (fun _ _ _ h => h) (by intro w hSw; (try dsimp only at hSw); go_simp <;> with_reducible rfl) (by assumption) ?_; (try simp only [Act.put, lyA, lyB, lyC]); refine tU 7 rfl (by kernel_rfl) (fun _ _ _ h => h) (by intro w hSw; (try dsimp only at hSw); go_simp <;> with_reducible rfl) (by assumption) ?_; (try simp only [Act.put, lyA, lyB, lyC]); refine tU 8 rfl (by kernel_rfl) (fun _ _ _ h => h) (by intro w hSw; (try dsimp only at hSw); go_simp <;> with_reducible rfl) (by assumption) ?_; (try simp only [Act.put, lyA, lyB, lyC]); refine takeL 9 rfl (by kernel_rfl) (by kernel_rfl) (by kernel_rfl) (fun _ _ _ h => h) (by kernel_rfl) (fun wT hST => sh_run_load1 hST rfl rfl 1 rfl rfl (by kernel_rfl)) hHeld ?_; (try simp only [Act.put, lyA, lyB, lyC]); refine tU 10 rfl (by kernel_rfl) (fun _ _ _ h => h) (by intro w hSw; (try dsimp only at hSw); go_simp <;> with_reducible rfl) (by assumption) ?_; (try simp only [Act.put, lyA, lyB, lyC]); refine tU 11 rfl (by kernel_rfl) (fun _ _ _ h => h) (by intro w hSw; (try dsimp only at hSw); go_simp <;> with_reducible rfl) (by assumption) ?_; (try simp only [Act.put, lyA, lyB, lyC]); refine tU 12 rfl (by kernel_rfl) (fun _ _ _ h => h) (by intro w hSw; (try dsimp only at hSw); go_simp <;> with_reducible rfl) (by assumption) ?_; (try simp only [Act.put, lyA, lyB, lyC]); clear hHeld; refine oneL 13 rfl (by kernel_rfl) (by kernel_rfl) (fun K hK => ?_); refine sh_store HHd.out sizeRec rfl rfl rfl 2 rfl rfl (Nat.le_of_ble_eq_true rfl) rfl ?_; intro w9 hh9; have HH := Lib.hid hh9; clear hh9 HHd; refine hK.out _ _ (HH.out.pair 0 1 rfl rfl rfl) (fun hHeld => ?_); clear hK K; (try simp only [Act.put, lyA, lyB, lyC]); refine tU 14 rfl (by kernel_rfl) (fun _ _ _ h => h) (by intro w hSw; (try dsimp only at hSw); go_simp <;> with_reducible rfl) (by assumption) ?_; (try simp only [Act.put, lyA, lyB, lyC]); refine wpAnyH_done (by kernel_rfl) ?_ _; go_wp2_with fail; refine ret_cell2 sizeRec (by kernel_rfl) HH.out rfl rfl rfl 2 rfl rfl rfl ?_
          rw [HF.out, HB2.out]
          exact ⟨⟨2, ⟨#[]⟩, 0, 0, none, 0, 0, [], v1, 0, v2, 0, 0, 0, 0⟩, rfl, rfl, rfl, fun h => absurd rfl h, HH.out.ext⟩
    · have hk2 : (k == 2) = false := by simpa using k2
      by_cases k3 : k = 3
      · subst k3
        have HA2 := Lib.hid (show readA 3 ts = ⟨3, ⟨#[]⟩, 0, 0, none, 0, 0, [], (stN (ts, true)).1, (stN (stN (ts, true)).2).1, ⟨#[]⟩, 0, 0, 0, 0⟩ from rfl)
        have HB2 := Lib.hid (show readB 3 ts = ((stN (stN (ts, true)).2).2.2 && emptyB (stN (stN (ts, true)).2).2.1) from rfl)
        clear HA HB hk1 k1 hk2 k2
        generalize readA 3 ts = RA at *
        generalize readB 3 ts = RB at *
        go_upto_region 13 with fail
        go_wp2_with fail
        refine (rnum2_any _ HH.out _ 1 ⟨A, c, ts, true⟩ rfl HX.out).mono ?_; rintro e wa ⟨y1, rfl, y1t, y1o, y1m, y1h⟩; have HH1 := Lib.hid y1h; have y1M := Lib.hid y1m; clear HH y1h y1m; have HH := HH1; clear HH1
        go_wp2_with fail
        refine (rnum2_any _ HH.out _ 1 y1 rfl y1M.out).mono ?_; rintro e wb ⟨y2, rfl, y2t, y2o, y2m, y2h⟩; have HH1 := Lib.hid y2h; have y2M := Lib.hid y2m; clear HH y2h y2m; have HH := HH1; clear HH1
        rw [rdN_st] at y1t y1o
        rw [rdN_st, y1t, y1o] at y2t y2o
        have HV1 := Lib.hid (congrArg Prod.fst (rdN_st ⟨A, c, ts, true⟩))
        have HV2 := Lib.hid (show (rdN y1).1 = (stN (stN (ts, true)).2).1 by rw [rdN_st, y1t, y1o])
        go_upto_region 14 with (refine shl_store1 HH.out rfl rfl rfl rfl 0 rfl rfl rfl (by kernel_rfl) ?_; clear HH; intro wS HHS; have HH := Lib.hid HHS; clear HHS)
        generalize (rdN ⟨A, c, ts, true⟩).1 = v1 at *
        generalize (rdN y1).1 = v2 at *
        obtain ⟨A2, c2, ts2, ok2⟩ := y2
        dsimp only at y2t y2o
        rw [← y2t, ← y2o] at HB2
        have HF := Lib.hid (show RA = ⟨3, ⟨#[]⟩, 0, 0, none, 0, 0, [], v1, v2, ⟨#[]⟩, 0, 0, 0, 0⟩ by rw [HA2.out, HV1.out, HV2.out])
        clear HA2 HV1 HV2 y1t y1o y2t y2o y1M y2M
        simp only [Rdr.cells] at HH
        cases ok2 with
        | false =>
          have HHd := Lib.hid HH.out.drew; clear HH; refine wp_region_held_drew (S := Heap w [_, _]) (by kernel_rfl) (HHd.out.pair 0 1 rfl rfl rfl) (fun hHeld => ?_); generalize World.drew _ = wd at *; refine takeL 0 rfl (by kernel_rfl) (by kernel_rfl) (by kernel_rfl) (fun _ _ _ h => h) (by kernel_rfl) (fun wT hST => sh_run_load hST sizeRec (by kernel_rfl) rfl rfl 0 rfl (Nat.le_of_ble_eq_true rfl)) hHeld ?_; (try simp only [Act.put, lyA, lyB, lyC]); refine tU 1 rfl (by kernel_rfl) (fun _ _ _ h => h) (by intro w hSw; (try dsimp only at hSw); go_simp <;> with_reducible rfl) (by assumption) ?_; (try simp only [Act.put, lyA, lyB, lyC]); refine tU 2 rfl (by kernel_rfl) (fun _ _ _ h => h) (by intro w hSw; (try dsimp only at hSw); go_simp <;> with_reducible rfl) (by assumption) ?_; (try simp only [Act.put, lyA, lyB, lyC]); refine tU 3 rfl (by kernel_rfl) (fun _ _ _ h => h) (by intro w hSw; (try dsimp only at hSw); go_simp <;> with_reducible rfl) (by assumption) ?_; (try simp only [Act.put, lyA, lyB, lyC]); refine takeL 4 rfl (by kernel_rfl) (by kernel_rfl) (by kernel_rfl) (fun _ _ _ h => h) (by kernel_rfl) (fun wT hST => sh_run_load1 hST rfl rfl 1 rfl rfl (by kernel_rfl)) hHeld ?_; (try simp only [Act.put, lyA, lyB, lyC]); refine tU 5 rfl (by kernel_rfl) (fun _ _ _ h => h) (by intro w hSw; (try dsimp only at hSw); go_simp <;> with_reducible rfl) (by assumption) ?_; (try simp only [Act.put, lyA, lyB, lyC]); refine sU 6 rfl (by kernel_rfl) (fun _ _ _ h => h) (by assumption) ?_; (try simp only [Act.put, lyA, lyB, lyC]); refine sU 7 rfl (by kernel_rfl) (fun _ _ _ h => h) (by assumption) ?_; (try simp only [Act.put, lyA, lyB, lyC]); refine sU 8 rfl (by kernel_rfl) (fun _ _ _ h => h) (by assumption) ?_; (try simp only [Act.put, lyA, lyB, lyC]); refine sU 9 rfl (by kernel_rfl) (fun _ _ _ h => h) (by assumption) ?_; (try simp only [Act.put, lyA, lyB, lyC]); refine sU 10 rfl (by kernel_rfl) (fun _ _ _ h => h) (by assumption) ?_; (try simp only [Act.put, lyA, lyB, lyC]); refine sU 11 rfl (by kernel_rfl) (fun _ _ _ h => h) (by assumption) ?_; (try simp only [Act.put, lyA, lyB, lyC]); refine tU 12 rfl (by kernel_rfl) (fun _ _ _ h => h) (by intro w hSw; (try dsimp only at hSw); go_simp <;> with_reducible rfl) (by assumption) ?_; (try simp only [Act.put, lyA, lyB, lyC]); clear hHeld; refine oneL 13 rfl (by kernel_rfl) (by kernel_rfl) (fun K hK => ?_); refine sh_store HHd.out sizeRec rfl rfl rfl 2 rfl rfl (Nat.le_of_ble_eq_true rfl) rfl ?_; intro w9 hh9; have HH := Lib.hid hh9; clear hh9 HHd; refine hK.out _ _ (HH.out.pair 0 1 rfl rfl rfl) (fun hHeld => ?_); clear hK K; (try simp only [Act.put, lyA, lyB, lyC]); refine tU 14 rfl (by kernel_rfl) (fun _ _ _ h => h) (by intro w hSw; (try dsimp only at hSw); go_simp <;> with_reducible rfl) (by assumption) ?_; (try simp only [Act.put, lyA, lyB, lyC]); refine wpAnyH_done (by kernel_rfl) ?_ _; go_wp2_with fail; refine ret_cell2 sizeRec (by kernel_rfl) HH.out rfl rfl rfl 2 rfl rfl rfl ?_
          rw [HF.out, HB2.out]
          exact ⟨⟨3, ⟨#[]⟩, 0, 0, none, 0, 0, [], v1, v2, ⟨#[]⟩, 0, 0, 0, 0⟩, rfl, rfl, rfl, fun h => absurd rfl h, HH.out.ext⟩
        | true =>
          cases hl : ((ts2.length : Int) == 0) with
          | false =>
            have hl2 : emptyB ts2 = false := by rw [emptyB, beq_eq_false_iff_ne]; simpa using hl
            rw [hl2] at HB2
            have HHd := Lib.hid HH.out.drew; clear HH; refine wp_region_held_drew (S := Heap w [_, _]) (by kernel_rfl) (HHd.out.pair 0 1 rfl rfl rfl) (fun hHeld => ?_); generalize World.drew _ = wd at *; refine takeL 0 rfl (by kernel_rfl) (by kernel_rfl) (by kernel_rfl) (fun _ _ _ h => h) (by kernel_rfl) (fun wT hST => sh_run_load hST sizeRec (by kernel_rfl) rfl rfl 0 rfl (Nat.le_of_ble_eq_true rfl)) hHeld ?_; (try simp only [Act.put, lyA, lyB, lyC]); refine tU 1 rfl (by kernel_rfl) (fun _ _ _ h => h) (by intro w hSw; (try dsimp only at hSw); go_simp <;> with_reducible rfl) (by assumption) ?_; (try simp only [Act.put, lyA, lyB, lyC]); refine tU 2 rfl (by kernel_rfl) (fun _ _ _ h => h) (by intro w hSw; (try dsimp only at hSw); go_simp <;> with_reducible rfl) (by assumption) ?_; (try simp only [Act.put, lyA, lyB, lyC]); refine tU 3 rfl (by kernel_rfl) (fun _ _ _ h => h) (by intro w hSw; (try dsimp only at hSw); go_simp <;> with_reducible rfl) (by assumption) ?_; (try simp only [Act.put, lyA, lyB, lyC]); refine takeL 4 rfl (by kernel_rfl) (by kernel_rfl) (by kernel_rfl) (fun _ _ _ h => h) (by kernel_rfl) (fun wT hST => sh_run_load1 hST rfl rfl 1 rfl rfl (by kernel_rfl)) hHeld ?_; (try simp only [Act.put, lyA, lyB, lyC]); refine tU 5 rfl (by kernel_rfl) (fun _ _ _ h => h) (by intro w hSw; (try dsimp only at hSw); go_simp <;> with_reducible rfl) (by assumption) ?_; (try simp only [Act.put, lyA, lyB, lyC]); refine tU 6 rfl (by kernel_rfl) (fun _ _ _ h => h) (by intro w hSw; (try dsimp only at hSw); go_simp <;> with_reducible rfl) (by assumption) ?_; (try simp only [Act.put, lyA, lyB, lyC]); refine tU 7 rfl (by kernel_rfl) (fun _ _ _ h => h) (by intro w hSw; (try dsimp only at hSw); go_simp <;> with_reducible rfl) (by assumption) ?_; (try simp only [Act.put, lyA, lyB, lyC]); refine tU 8 rfl (by kernel_rfl) (fun _ _ _ h => h) (by intro w hSw; (try dsimp only at hSw); go_simp <;> with_reducible rfl) (by assumption) ?_; (try simp only [Act.put, lyA, lyB, lyC]); refine takeL 9 rfl (by kernel_rfl) (by kernel_rfl) (by kernel_rfl) (fun _ _ _ h => h) (by kernel_rfl) (fun wT hST => sh_run_load1 hST rfl rfl 1 rfl rfl (by kernel_rfl)) hHeld ?_; (try simp only [Act.put, lyA, lyB, lyC]); refine tU 10 rfl (by kernel_rfl) (fun _ _ _ h => h) (by intro w hSw; (try dsimp only at hSw); go_simp <;> with_reducible rfl) (by assumption) ?_; (try simp only [Act.put, lyA, lyB, lyC]); refine tU 11 rfl (by kernel_rfl) (fun _ _ _ h => h) (by intro w hSw; (try dsimp only at hSw); go_simp <;> with_reducible rfl) (by assumption) ?_; (try simp only [Act.put, lyA, lyB, lyC]); refine tU 12 rfl (by kernel_rfl) (fun _ _ _ h => h) (by intro w hSw; (try dsimp only at hSw); go_simp <;> with_reducible rfl) (by assumption) ?_; (try simp only [Act.put, lyA, lyB, lyC]); clear hHeld; refine oneL 13 rfl (by kernel_rfl) (by kernel_rfl) (fun K hK => ?_); refine sh_store HHd.out sizeRec rfl rfl rfl 2 rfl rfl (Nat.le_of_ble_eq_true rfl) rfl ?_; intro w9 hh9; have HH := Lib.hid hh9; clear hh9 HHd; refine hK.out _ _ (HH.out.pair 0 1 rfl rfl rfl) (fun hHeld => ?_); clear hK K; (try simp only [Act.put, lyA, lyB, lyC]); refine tU 14 rfl (by kernel_rfl) (fun _ _ _ h => h) (by intro w hSw; (try dsimp only at hSw); go_simp <;> with_reducible rfl) (by assumption) ?_; (try simp only [Act.put, lyA, lyB, lyC]); refine wpAnyH_done (by kernel_rfl) ?_ _; go_wp2_with fail; refine ret_cell2 sizeRec (by kernel_rfl) HH.out rfl rfl rfl 2 rfl rfl rfl ?_
            rw [HF.out, HB2.out]
            exact ⟨⟨3, ⟨#[]⟩, 0, 0, none, 0, 0, [], v1, v2, ⟨#[]⟩, 0, 0, 0, 0⟩, rfl, rfl, rfl, fun h => absurd rfl h, HH.out.ext⟩
          | true =>
            have hl2 : emptyB ts2 = true := by rw [emptyB, beq_iff_eq]; simpa using hl
            rw [hl2] at HB2
            have HHd := Lib.hid HH.out.drew; clear HH; refine wp_region_held_drew (S := Heap w [_, _]) (by kernel_rfl) (HHd.out.pair 0 1 rfl rfl rfl) (fun hHeld => ?_); generalize World.drew _ = wd at *; refine takeL 0 rfl (by kernel_rfl) (by kernel_rfl) (by kernel_rfl) (fun _ _ _ h => h) (by kernel_rfl) (fun wT hST => sh_run_load hST sizeRec (by kernel_rfl) rfl rfl 0 rfl (Nat.le_of_ble_eq_true rfl)) hHeld ?_; (try simp only [Act.put, lyA, lyB, lyC]); refine tU 1 rfl (by kernel_rfl) (fun _ _ _ h => h) (by intro w hSw; (try dsimp only at hSw); go_simp <;> with_reducible rfl) (by assumption) ?_; (try simp only [Act.put, lyA, lyB, lyC]); refine tU 2 rfl (by kernel_rfl) (fun _ _ _ h => h) (by intro w hSw; (try dsimp only at hSw); go_simp <;> with_reducible rfl) (by assumption) ?_; (try simp only [Act.put, lyA, lyB, lyC]); refine tU 3 rfl (by kernel_rfl) (fun _ _ _ h => h) (by intro w hSw; (try dsimp only at hSw); go_simp <;> with_reducible rfl) (by assumption) ?_; (try simp only [Act.put, lyA, lyB, lyC]); refine takeL 4 rfl (by kernel_rfl) (by kernel_rfl) (by kernel_rfl) (fun _ _ _ h => h) (by kernel_rfl) (fun wT hST => sh_run_load1 hST rfl rfl 1 rfl rfl (by kernel_rfl)) hHeld ?_; (try simp only [Act.put, lyA, lyB, lyC]); refine tU 5 rfl (by kernel_rfl) (fun _ _ _ h => h) (by intro w hSw; (try dsimp only at hSw); go_simp <;> with_reducible rfl) (by assumption) ?_; (try simp only [Act.put, lyA, lyB, lyC]); refine tU 6 rfl (by kernel_rfl) (fun _ _ _ h => h) (by intro w hSw; (try dsimp only at hSw); go_simp <;> with_reducible rfl) (by assumption) ?_; (try simp only [Act.put, lyA, lyB, lyC]); refine tU 7 rfl (by kernel_rfl) (fun _ _ _ h => h) (by intro w hSw; (try dsimp only at hSw); go_simp <;> with_reducible rfl) (by assumption) ?_; (try simp only [Act.put, lyA, lyB, lyC]); refine tU 8 rfl (by kernel_rfl) (fun _ _ _ h => h) (by intro w hSw; (try dsimp only at hSw); go_simp <;> with_reducible rfl) (by assumption) ?_; (try simp only [Act.put, lyA, lyB, lyC]); refine takeL 9 rfl (by kernel_rfl) (by kernel_rfl) (by kernel_rfl) (fun _ _ _ h => h) (by kernel_rfl) (fun wT hST => sh_run_load1 hST rfl rfl 1 rfl rfl (by kernel_rfl)) hHeld ?_; (try simp only [Act.put, lyA, lyB, lyC]); refine tU 10 rfl (by kernel_rfl) (fun _ _ _ h => h) (by intro w hSw; (try dsimp only at hSw); go_simp <;> with_reducible rfl) (by assumption) ?_; (try simp only [Act.put, lyA, lyB, lyC]); refine tU 11 rfl (by kernel_rfl) (fun _ _ _ h => h) (by intro w hSw; (try dsimp only at hSw); go_simp <;> with_reducible rfl) (by assumption) ?_; (try simp only [Act.put, lyA, lyB, lyC]); refine tU 12 rfl (by kernel_rfl) (fun _ _ _ h => h) (by intro w hSw; (try dsimp only at hSw); go_simp <;> with_reducible rfl) (by assumption) ?_; (try simp only [Act.put, lyA, lyB, lyC]); clear hHeld; refine oneL 13 rfl (by kernel_rfl) (by kernel_rfl) (fun K hK => ?_); refine sh_store HHd.out sizeRec rfl rfl rfl 2 rfl rfl (Nat.le_of_ble_eq_true rfl) rfl ?_; intro w9 hh9; have HH := Lib.hid hh9; clear hh9 HHd; refine hK.out _ _ (HH.out.pair 0 1 rfl rfl rfl) (fun hHeld => ?_); clear hK K; (try simp only [Act.put, lyA, lyB, lyC]); refine tU 14 rfl (by kernel_rfl) (fun _ _ _ h => h) (by intro w hSw; (try dsimp only at hSw); go_simp <;> with_reducible rfl) (by assumption) ?_; (try simp only [Act.put, lyA, lyB, lyC]); refine wpAnyH_done (by kernel_rfl) ?_ _; go_wp2_with fail; refine ret_cell2 sizeRec (by kernel_rfl) HH.out rfl rfl rfl 2 rfl rfl rfl ?_
            rw [HF.out, HB2.out]
            exact ⟨⟨3, ⟨#[]⟩, 0, 0, none, 0, 0, [], v1, v2, ⟨#[]⟩, 0, 0, 0, 0⟩, rfl, rfl, rfl, fun h => absurd rfl h, HH.out.ext⟩
      · have hk3 : (k == 3) = false := by simpa using k3
        have HA2 := Lib.hid (show readA k ts = ⟨k, ⟨#[]⟩, 0, 0, none, 0, 0, [], 0, 0, ⟨#[]⟩, (sumOf (stT (ts, true)).1.data.toList).a, (sumOf (stT (ts, true)).1.data.toList).b, (sumOf (stT (ts, true)).1.data.toList).c, (sumOf (stT (ts, true)).1.data.toList).d⟩ by rw [readA, if_neg k1, if_neg k2, if_neg k3])
        have HB2 := Lib.hid (show readB k ts = (((stT (ts, true)).2.2 && sumE (stT (ts, true)).1.data.toList == 0) && emptyB (stT (ts, true)).2.1) by rw [readB, if_neg k1, if_neg k2, if_neg k3])
        clear HA HB k1 k2 k3
        generalize readA k ts = RA at *
        generalize readB k ts = RB at *
        go_upto_region 4 with fail
        go_wp2_with fail
        refine (rtext2_any _ HH.out _ 1 ⟨A, c, ts, true⟩ rfl HX.out).mono ?_; rintro e wa ⟨y1, rfl, y1t, y1o, y1m, y1h⟩; have HH1 := Lib.hid y1h; have y1M := Lib.hid y1m; clear HH y1h y1m; have HH := HH1; clear HH1
        rw [rdT_st] at y1t y1o
        have HV1 := Lib.hid (congrArg Prod.fst (rdT_st ⟨A, c, ts, true⟩))
        have HZ1 := Lib.hid (show (rdT ⟨A, c, ts, true⟩).1.size ≤ 1000000 by cases ts with | nil => exact Nat.zero_le _ | cons s r => exact HZ.out s (by simp))
        generalize (rdT ⟨A, c, ts, true⟩).1 = v1 at *
        have hcv := fun W => run_bytes_of_string (P := Tryz.prog) W 9 53 5 v1 Tryz.underlying9 Tryz.underlying53 Tryz.underlying5
        have hG1 : v1.size ≤ grownCap wa v1.size 0 5 := grownCap_ge wa _ _ _
        have hG2 : grownCap wa v1.size 0 5 ≤ maxLen := grownCap_le_maxLen wa v1.size 0 5 (by have := HZ1.out; simp only [maxLen]; omega)
        have HRb := Lib.hid (rd_bytesRow wa v1 (grownCap wa v1.size 0 5) 5 ((bytesRow v1 (grownCap wa v1.size 0 5)).size, (bytesRow v1 (grownCap wa v1.size 0 5)).size + 1))
        have HG1 := Lib.hid hG1
        have HG2 := Lib.hid hG2
        clear hG1 hG2
        go_wp2_with fail
        clear hcv
        refine (fread_any _ _ v1.size _ v1.data.toList (by rw [len_data]) HG1.out (HRb.out.drew.more (Nat.zero_le _) (by simp)) (by have := HZ1.out; omega) (by have := HG2.out; simp only [maxLen] at this; exact this)).mono ?_
        rintro e wb ⟨rfl, eb⟩
        have HH3 := Lib.hid (HH.out.later ((Ext.drew ((Ext.refl wa).alloc _)).trans eb))
        clear HH eb HRb HG1 HG2
        have HH := HH3
        clear HH3
        generalize hsv : sumOf v1.data.toList = sv at *
        have HSv := Lib.hid hsv
        clear hsv
        obtain ⟨sa, sb, sc, sd⟩ := sv
        simp only [Su.cells]
        go_upto_region 5 with fail
        go_simp; generalize hwA : World.alloc _ _ = wc; have HH4 := Lib.hid ((HH).out.allocE hwA); clear hwA HH
        have HH := HH4
        clear HH4
        obtain ⟨A2, c2, ts2, ok2⟩ := y1
        dsimp only at y1t y1o
        rw [← y1t, ← y1o, ← HV1.out] at HB2
        have HF := Lib.hid (show RA = ⟨k, ⟨#[]⟩, 0, 0, none, 0, 0, [], 0, 0, ⟨#[]⟩, sa, sb, sc, sd⟩ by rw [HA2.out, ← HV1.out, HSv.out])
        clear HA2 HV1 HSv y1t y1o y1M HZ1
        simp only [Rdr.cells] at HH
        generalize sumE v1.data.toList = SE at *
        cases ok2 with
        | false =>
          have HHd := Lib.hid HH.out.drew; clear HH; refine rgnM (fun k => (Nat.blt 0 k && Nat.blt k 7) || (Nat.blt 9 k && Nat.blt k 12)) (S := Heap w [_, _]) (by kernel_rfl) (HHd.out.pair 0 2 rfl rfl rfl) (fun hHeld => ?_); generalize World.drew _ = wd at *; refine pureM 0 (v := ?_) rfl (by kernel_rfl) (by kernel_rfl) (by kernel_rfl) (by kernel_rfl) (fun _ _ _ h => h) (by kernel_rfl) ?_ (fun _ => by assumption) ?_; rotate_left; (focus (intro w; go_simp <;> with_reducible rfl)); (try simp only [Act.put, lyA, lyB, lyC]); refine takeM 1 rfl (by kernel_rfl) (by kernel_rfl) (by kernel_rfl) (by kernel_rfl) (fun _ _ _ h => h) (by kernel_rfl) (fun wT hST => sh_run_load hST sizeSu (by kernel_rfl) rfl rfl 0 rfl (Nat.le_of_ble_eq_true rfl)) hHeld ?_; (try simp only [Act.put, lyA, lyB, lyC]); refine takeM 2 (v := ?_) rfl (by kernel_rfl) (by kernel_rfl) (by kernel_rfl) (by kernel_rfl) (fun _ _ _ h => h) (by kernel_rfl) ?_ (by assumption) ?_; rotate_left; (focus (intro w hSw; (try dsimp only at hSw); (try go_split_ands); go_simp <;> with_reducible rfl)); (try simp only [Act.put, lyA, lyB, lyC]); refine takeM 3 (v := ?_) rfl (by kernel_rfl) (by kernel_rfl) (by kernel_rfl) (by kernel_rfl) (fun _ _ _ h => h) (by kernel_rfl) ?_ (by assumption) ?_; rotate_left; (focus (intro w hSw; (try dsimp only at hSw); (try go_split_ands); go_simp <;> with_reducible rfl)); (try simp only [Act.put, lyA, lyB, lyC]); refine takeM 4 (v := ?_) rfl (by kernel_rfl) (by kernel_rfl) (by kernel_rfl) (by kernel_rfl) (fun _ _ _ h => h) (by kernel_rfl) ?_ (by assumption) ?_; rotate_left; (focus (intro w hSw; (try dsimp only at hSw); (try go_split_ands); go_simp <;> with_reducible rfl)); (try simp only [Act.put, lyA, lyB, lyC]); refine takeM 5 rfl (by kernel_rfl) (by kernel_rfl) (by kernel_rfl) (by kernel_rfl) (fun _ _ _ h => h) (by kernel_rfl) (fun wT hST => sh_run_load1 hST rfl rfl 1 rfl rfl (by kernel_rfl)) hHeld ?_; (try simp only [Act.put, lyA, lyB, lyC]); refine takeM 6 (v := ?_) rfl (by kernel_rfl) (by kernel_rfl) (by kernel_rfl) (by kernel_rfl) (fun _ _ _ h => h) (by kernel_rfl) ?_ (by assumption) ?_; rotate_left; (focus (intro w hSw; (try dsimp only at hSw); (try go_split_ands); go_simp <;> with_reducible rfl)); (try simp only [Act.put, lyA, lyB, lyC])
          refine skipPM 7 rfl (by kernel_rfl) (by kernel_rfl) (by kernel_rfl) (by kernel_rfl) (fun _ _ _ h => h) (by kernel_rfl) (fun _ => by assumption) ?_; (try simp only [Act.put, lyA, lyB, lyC])
          refine skipPM 8 rfl (by kernel_rfl) (by kernel_rfl) (by kernel_rfl) (by kernel_rfl) (fun _ _ _ h => h) (by kernel_rfl) (fun _ => by assumption) ?_; (try simp only [Act.put, lyA, lyB, lyC])
          refine pureM 9 (v := ?_) rfl (by kernel_rfl) (by kernel_rfl) (by kernel_rfl) (by kernel_rfl) (fun _ _ _ h => h) (by kernel_rfl) ?_ (fun _ => by assumption) ?_; rotate_left; (focus (intro w; go_simp <;> with_reducible rfl)); (try simp only [Act.put, lyA, lyB, lyC]); refine takeM 10 (v := ?_) rfl (by kernel_rfl) (by kernel_rfl) (by kernel_rfl) (by kernel_rfl) (fun _ _ _ h => h) (by kernel_rfl) ?_ (by assumption) ?_; rotate_left; (focus (intro w hSw; (try dsimp only at hSw); (try go_split_ands); go_simp <;> with_reducible rfl)); (try simp only [Act.put, lyA, lyB, lyC]); clear hHeld; refine oneM 11 rfl (by kernel_rfl) (by kernel_rfl) (fun K hK => ?_); refine sh_store HHd.out sizeSu rfl rfl rfl 1 rfl rfl (Nat.le_of_ble_eq_true rfl) rfl ?_; intro w7 hh7; have HH7 := Lib.hid hh7; clear hh7 HHd; refine hK.out _ _ (HH7.out.pair 0 2 rfl rfl rfl) (fun hHeld => ?_); clear hK K; (try simp only [Act.put, lyA, lyB, lyC]); refine pureM 12 (v := ?_) rfl (by kernel_rfl) (by kernel_rfl) (by kernel_rfl) (by kernel_rfl) (fun _ _ _ h => h) (by kernel_rfl) ?_ (fun _ => by assumption) ?_; rotate_left; (focus (intro w; go_simp <;> with_reducible rfl)); (try simp only [Act.put, lyA, lyB, lyC]); refine pureM 13 (v := ?_) rfl (by kernel_rfl) (by kernel_rfl) (by kernel_rfl) (by kernel_rfl) (fun _ _ _ h => h) (by kernel_rfl) ?_ (fun _ => by assumption) ?_; rotate_left; (focus (intro w; go_simp <;> with_reducible rfl)); (try simp only [Act.put, lyA, lyB, lyC]); refine freeM 14 rfl (by kernel_rfl) (by kernel_rfl) (by kernel_rfl) (fun K hK => ?_); refine sh_store1 HH7.out rfl rfl rfl 2 rfl (Nat.le_of_ble_eq_true rfl) rfl (by kernel_rfl) ?_; intro w8 h8; refine hK.out _ _ ?_; clear hK K hHeld; (try simp only [Act.put, lyA, lyB, lyC]); refine doneM (by kernel_rfl) ?_; have HH := Lib.hid h8.tail; clear HH7 h8
          go_upto_region 14 with fail
          have HHd := Lib.hid HH.out.drew; clear HH; refine wp_region_held_drew (S := Heap w [_, _]) (by kernel_rfl) (HHd.out.pair 0 1 rfl rfl rfl) (fun hHeld => ?_); generalize World.drew _ = wd at *; refine takeL 0 rfl (by kernel_rfl) (by kernel_rfl) (by kernel_rfl) (fun _ _ _ h => h) (by kernel_rfl) (fun wT hST => sh_run_load hST sizeRec (by kernel_rfl) rfl rfl 0 rfl (Nat.le_of_ble_eq_true rfl)) hHeld ?_; (try simp only [Act.put, lyA, lyB, lyC]); refine tU 1 rfl (by kernel_rfl) (fun _ _ _ h => h) (by intro w hSw; (try dsimp only at hSw); go_simp <;> with_reducible rfl) (by assumption) ?_; (try simp only [Act.put, lyA, lyB, lyC]); refine tU 2 rfl (by kernel_rfl) (fun _ _ _ h => h) (by intro w hSw; (try dsimp only at hSw); go_simp <;> with_reducible rfl) (by assumption) ?_; (try simp only [Act.put, lyA, lyB, lyC]); refine tU 3 rfl (by kernel_rfl) (fun _ _ _ h => h) (by intro w hSw; (try dsimp only at hSw); go_simp <;> with_reducible rfl) (by assumption) ?_; (try simp only [Act.put, lyA, lyB, lyC]); refine takeL 4 rfl (by kernel_rfl) (by kernel_rfl) (by kernel_rfl) (fun _ _ _ h => h) (by kernel_rfl) (fun wT hST => sh_run_load1 hST rfl rfl 1 rfl rfl (by kernel_rfl)) hHeld ?_; (try simp only [Act.put, lyA, lyB, lyC]); refine tU 5 rfl (by kernel_rfl) (fun _ _ _ h => h) (by intro w hSw; (try dsimp only at hSw); go_simp <;> with_reducible rfl) (by assumption) ?_; (try simp only [Act.put, lyA, lyB, lyC]); refine sU 6 rfl (by kernel_rfl) (fun _ _ _ h => h) (by assumption) ?_; (try simp only [Act.put, lyA, lyB, lyC]); refine sU 7 rfl (by kernel_rfl) (fun _ _ _ h => h) (by assumption) ?_; (try simp only [Act.put, lyA, lyB, lyC]); refine sU 8 rfl (by kernel_rfl) (fun _ _ _ h => h) (by assumption) ?_; (try simp only [Act.put, lyA, lyB, lyC]); refine sU 9 rfl (by kernel_rfl) (fun _ _ _ h => h) (by assumption) ?_; (try simp only [Act.put, lyA, lyB, lyC]); refine sU 10 rfl (by kernel_rfl) (fun _ _ _ h => h) (by assumption) ?_; (try simp only [Act.put, lyA, lyB, lyC]); refine sU 11 rfl (by kernel_rfl) (fun _ _ _ h => h) (by assumption) ?_; (try simp only [Act.put, lyA, lyB, lyC]); refine tU 12 rfl (by kernel_rfl) (fun _ _ _ h => h) (by intro w hSw; (try dsimp only at hSw); go_simp <;> with_reducible rfl) (by assumption) ?_; (try simp only [Act.put, lyA, lyB, lyC]); clear hHeld; refine oneL 13 rfl (by kernel_rfl) (by kernel_rfl) (fun K hK => ?_); refine sh_store HHd.out sizeRec rfl rfl rfl 2 rfl rfl (Nat.le_of_ble_eq_true rfl) rfl ?_; intro w9 hh9; have HH := Lib.hid hh9; clear hh9 HHd; refine hK.out _ _ (HH.out.pair 0 1 rfl rfl rfl) (fun hHeld => ?_); clear hK K; (try simp only [Act.put, lyA, lyB, lyC]); refine tU 14 rfl (by kernel_rfl) (fun _ _ _ h => h) (by intro w hSw; (try dsimp only at hSw); go_simp <;> with_reducible rfl) (by assumption) ?_; (try simp only [Act.put, lyA, lyB, lyC]); refine wpAnyH_done (by kernel_rfl) ?_ _; go_wp2_with fail; refine ret_cell2 sizeRec (by kernel_rfl) HH.out rfl rfl rfl 2 rfl rfl rfl ?_
          rw [HF.out, HB2.out]
          exact ⟨⟨k, ⟨#[]⟩, 0, 0, none, 0, 0, [], 0, 0, ⟨#[]⟩, sa, sb, sc, sd⟩, rfl, rfl, rfl, fun h => absurd rfl h, HH.out.ext⟩
        | true =>
          cases hE : (SE == 0) with
          | false =>
            rw [hE] at HB2
            have HHd := Lib.hid HH.out.drew; clear HH; refine rgnM (fun k => (Nat.blt 0 k && Nat.blt k 7) || (Nat.blt 9 k && Nat.blt k 12)) (S := Heap w [_, _]) (by kernel_rfl) (HHd.out.pair 0 2 rfl rfl rfl) (fun hHeld => ?_); generalize World.drew _ = wd at *; refine pureM 0 (v := ?_) rfl (by kernel_rfl) (by kernel_rfl) (by kernel_rfl) (by kernel_rfl) (fun _ _ _ h => h) (by kernel_rfl) ?_ (fun _ => by assumption) ?_; rotate_left; (focus (intro w; go_simp <;> with_reducible rfl)); (try simp only [Act.put, lyA, lyB, lyC]); refine takeM 1 rfl (by kernel_rfl) (by kernel_rfl) (by kernel_rfl) (by kernel_rfl) (fun _ _ _ h => h) (by kernel_rfl) (fun wT hST => sh_run_load hST sizeSu (by kernel_rfl) rfl rfl 0 rfl (Nat.le_of_ble_eq_true rfl)) hHeld ?_; (try simp only [Act.put, lyA, lyB, lyC]); refine takeM 2 (v := ?_) rfl (by kernel_rfl) (by kernel_rfl) (by kernel_rfl) (by kernel_rfl) (fun _ _ _ h => h) (by kernel_rfl) ?_ (by assumption) ?_; rotate_left; (focus (intro w hSw; (try dsimp only at hSw); (try go_split_ands); go_simp <;> with_reducible rfl)); (try simp only [Act.put, lyA, lyB, lyC]); refine takeM 3 (v := ?_) rfl (by kernel_rfl) (by kernel_rfl) (by kernel_rfl) (by kernel_rfl) (fun _ _ _ h => h) (by kernel_rfl) ?_ (by assumption) ?_; rotate_left; (focus (intro w hSw; (try dsimp only at hSw); (try go_split_ands); go_simp <;> with_reducible rfl)); (try simp only [Act.put, lyA, lyB, lyC]); refine takeM 4 (v := ?_) rfl (by kernel_rfl) (by kernel_rfl) (by kernel_rfl) (by kernel_rfl) (fun _ _ _ h => h) (by kernel_rfl) ?_ (by assumption) ?_; rotate_left; (focus (intro w hSw; (try dsimp only at hSw); (try go_split_ands); go_simp <;> with_reducible rfl)); (try simp only [Act.put, lyA, lyB, lyC]); refine takeM 5 rfl (by kernel_rfl) (by kernel_rfl) (by kernel_rfl) (by kernel_rfl) (fun _ _ _ h => h) (by kernel_rfl) (fun wT hST => sh_run_load1 hST rfl rfl 1 rfl rfl (by kernel_rfl)) hHeld ?_; (try simp only [Act.put, lyA, lyB, lyC]); refine takeM 6 (v := ?_) rfl (by kernel_rfl) (by kernel_rfl) (by kernel_rfl) (by kernel_rfl) (fun _ _ _ h => h) (by kernel_rfl) ?_ (by assumption) ?_; rotate_left; (focus (intro w hSw; (try dsimp only at hSw); (try go_split_ands); go_simp <;> with_reducible rfl)); (try simp only [Act.put, lyA, lyB, lyC])
            refine pureM 7 (v := ?_) rfl (by kernel_rfl) (by kernel_rfl) (by kernel_rfl) (by kernel_rfl) (fun _ _ _ h => h) (by kernel_rfl) ?_ (fun _ => by assumption) ?_; rotate_left; (focus (intro w; go_simp <;> with_reducible rfl)); (try simp only [Act.put, lyA, lyB, lyC])
            refine pureM 8 (v := ?_) rfl (by kernel_rfl) (by kernel_rfl) (by kernel_rfl) (by kernel_rfl) (fun _ _ _ h => h) (by kernel_rfl) ?_ (fun _ => by assumption) ?_; rotate_left; (focus (intro w; go_simp <;> with_reducible rfl)); (try simp only [Act.put, lyA, lyB, lyC])
            refine pureM 9 (v := ?_) rfl (by kernel_rfl) (by kernel_rfl) (by kernel_rfl) (by kernel_rfl) (fun _ _ _ h => h) (by kernel_rfl) ?_ (fun _ => by assumption) ?_; rotate_left; (focus (intro w; go_simp <;> with_reducible rfl)); (try simp only [Act.put, lyA, lyB, lyC]); refine takeM 10 (v := ?_) rfl (by kernel_rfl) (by kernel_rfl) (by kernel_rfl) (by kernel_rfl) (fun _ _ _ h => h) (by kernel_rfl) ?_ (by assumption) ?_; rotate_left; (focus (intro w hSw; (try dsimp only at hSw); (try go_split_ands); go_simp <;> with_reducible rfl)); (try simp only [Act.put, lyA, lyB, lyC]); clear hHeld; refine oneM 11 rfl (by kernel_rfl) (by kernel_rfl) (fun K hK => ?_); refine sh_store HHd.out sizeSu rfl rfl rfl 1 rfl rfl (Nat.le_of_ble_eq_true rfl) rfl ?_; intro w7 hh7; have HH7 := Lib.hid hh7; clear hh7 HHd; refine hK.out _ _ (HH7.out.pair 0 2 rfl rfl rfl) (fun hHeld => ?_); clear hK K; (try simp only [Act.put, lyA, lyB, lyC]); refine pureM 12 (v := ?_) rfl (by kernel_rfl) (by kernel_rfl) (by kernel_rfl) (by kernel_rfl) (fun _ _ _ h => h) (by kernel_rfl) ?_ (fun _ => by assumption) ?_; rotate_left; (focus (intro w; go_simp <;> with_reducible rfl)); (try simp only [Act.put, lyA, lyB, lyC]); refine pureM 13 (v := ?_) rfl (by kernel_rfl) (by kernel_rfl) (by kernel_rfl) (by kernel_rfl) (fun _ _ _ h => h) (by kernel_rfl) ?_ (fun _ => by assumption) ?_; rotate_left; (focus (intro w; go_simp <;> with_reducible rfl)); (try simp only [Act.put, lyA, lyB, lyC]); refine freeM 14 rfl (by kernel_rfl) (by kernel_rfl) (by kernel_rfl) (fun K hK => ?_); refine sh_store1 HH7.out rfl rfl rfl 2 rfl (Nat.le_of_ble_eq_true rfl) rfl (by kernel_rfl) ?_; intro w8 h8; refine hK.out _ _ ?_; clear hK K hHeld; (try simp only [Act.put, lyA, lyB, lyC]); refine doneM (by kernel_rfl) ?_; have HH := Lib.hid h8.tail; clear HH7 h8
            go_upto_region 14 with fail
            have HHd := Lib.hid HH.out.drew; clear HH; refine wp_region_held_drew (S := Heap w [_, _]) (by kernel_rfl) (HHd.out.pair 0 1 rfl rfl rfl) (fun hHeld => ?_); generalize World.drew _ = wd at *; refine takeL 0 rfl (by kernel_rfl) (by kernel_rfl) (by kernel_rfl) (fun _ _ _ h => h) (by kernel_rfl) (fun wT hST => sh_run_load hST sizeRec (by kernel_rfl) rfl rfl 0 rfl (Nat.le_of_ble_eq_true rfl)) hHeld ?_; (try simp only [Act.put, lyA, lyB, lyC]); refine tU 1 rfl (by kernel_rfl) (fun _ _ _ h => h) (by intro w hSw; (try dsimp only at hSw); go_simp <;> with_reducible rfl) (by assumption) ?_; (try simp only [Act.put, lyA, lyB, lyC]); refine tU 2 rfl (by kernel_rfl) (fun _ _ _ h => h) (by intro w hSw; (try dsimp only at hSw); go_simp <;> with_reducible rfl) (by assumption) ?_; (try simp only [Act.put, lyA, lyB, lyC]); refine tU 3 rfl (by kernel_rfl) (fun _ _ _ h => h) (by intro w hSw; (try dsimp only at hSw); go_simp <;> with_reducible rfl) (by assumption) ?_; (try simp only [Act.put, lyA, lyB, lyC]); refine takeL 4 rfl (by kernel_rfl) (by kernel_rfl) (by kernel_rfl) (fun _ _ _ h => h) (by kernel_rfl) (fun wT hST => sh_run_load1 hST rfl rfl 1 rfl rfl (by kernel_rfl)) hHeld ?_; (try simp only [Act.put, lyA, lyB, lyC]); refine tU 5 rfl (by kernel_rfl) (fun _ _ _ h => h) (by intro w hSw; (try dsimp only at hSw); go_simp <;> with_reducible rfl) (by assumption) ?_; (try simp only [Act.put, lyA, lyB, lyC]); refine sU 6 rfl (by kernel_rfl) (fun _ _ _ h => h) (by assumption) ?_; (try simp only [Act.put, lyA, lyB, lyC]); refine sU 7 rfl (by kernel_rfl) (fun _ _ _ h => h) (by assumption) ?_; (try simp only [Act.put, lyA, lyB, lyC]); refine sU 8 rfl (by kernel_rfl) (fun _ _ _ h => h) (by assumption) ?_; (try simp only [Act.put, lyA, lyB, lyC]); refine sU 9 rfl (by kernel_rfl) (fun _ _ _ h => h) (by assumption) ?_; (try simp only [Act.put, lyA, lyB, lyC]); refine sU 10 rfl (by kernel_rfl) (fun _ _ _ h => h) (by assumption) ?_; (try simp only [Act.put, lyA, lyB, lyC]); refine sU 11 rfl (by kernel_rfl) (fun _ _ _ h => h) (by assumption) ?_; (try simp only [Act.put, lyA, lyB, lyC]); refine tU 12 rfl (by kernel_rfl) (fun _ _ _ h => h) (by intro w hSw; (try dsimp only at hSw); go_simp <;> with_reducible rfl) (by assumption) ?_; (try simp only [Act.put, lyA, lyB, lyC]); clear hHeld; refine oneL 13 rfl (by kernel_rfl) (by kernel_rfl) (fun K hK => ?_); refine sh_store HHd.out sizeRec rfl rfl rfl 2 rfl rfl (Nat.le_of_ble_eq_true rfl) rfl ?_; intro w9 hh9; have HH := Lib.hid hh9; clear hh9 HHd; refine hK.out _ _ (HH.out.pair 0 1 rfl rfl rfl) (fun hHeld => ?_); clear hK K; (try simp only [Act.put, lyA, lyB, lyC]); refine tU 14 rfl (by kernel_rfl) (fun _ _ _ h => h) (by intro w hSw; (try dsimp only at hSw); go_simp <;> with_reducible rfl) (by assumption) ?_; (try simp only [Act.put, lyA, lyB, lyC]); refine wpAnyH_done (by kernel_rfl) ?_ _; go_wp2_with fail; refine ret_cell2 sizeRec (by kernel_rfl) HH.out rfl rfl rfl 2 rfl rfl rfl ?_
            rw [HF.out, HB2.out]
            exact ⟨⟨k, ⟨#[]⟩, 0, 0, none, 0, 0, [], 0, 0, ⟨#[]⟩, sa, sb, sc, sd⟩, rfl, rfl, rfl, fun h => absurd rfl h, HH.out.ext⟩
          | true =>
            rw [hE] at HB2
            have HHd := Lib.hid HH.out.drew; clear HH; refine rgnM (fun k => (Nat.blt 0 k && Nat.blt k 7) || (Nat.blt 9 k && Nat.blt k 12)) (S := Heap w [_, _]) (by kernel_rfl) (HHd.out.pair 0 2 rfl rfl rfl) (fun hHeld => ?_); generalize World.drew _ = wd at *; refine pureM 0 (v := ?_) rfl (by kernel_rfl) (by kernel_rfl) (by kernel_rfl) (by kernel_rfl) (fun _ _ _ h => h) (by kernel_rfl) ?_ (fun _ => by assumption) ?_; rotate_left; (focus (intro w; go_simp <;> with_reducible rfl)); (try simp only [Act.put, lyA, lyB, lyC]); refine takeM 1 rfl (by kernel_rfl) (by kernel_rfl) (by kernel_rfl) (by kernel_rfl) (fun _ _ _ h => h) (by kernel_rfl) (fun wT hST => sh_run_load hST sizeSu (by kernel_rfl) rfl rfl 0 rfl (Nat.le_of_ble_eq_true rfl)) hHeld ?_; (try simp only [Act.put, lyA, lyB, lyC]); refine takeM 2 (v := ?_) rfl (by kernel_rfl) (by kernel_rfl) (by kernel_rfl) (by kernel_rfl) (fun _ _ _ h => h) (by kernel_rfl) ?_ (by assumption) ?_; rotate_left; (focus (intro w hSw; (try dsimp only at hSw); (try go_split_ands); go_simp <;> with_reducible rfl)); (try simp only [Act.put, lyA, lyB, lyC]); refine takeM 3 (v := ?_) rfl (by kernel_rfl) (by kernel_rfl) (by kernel_rfl) (by kernel_rfl) (fun _ _ _ h => h) (by kernel_rfl) ?_ (by assumption) ?_; rotate_left; (focus (intro w hSw; (try dsimp only at hSw); (try go_split_ands); go_simp <;> with_reducible rfl)); (try simp only [Act.put, lyA, lyB, lyC]); refine takeM 4 (v := ?_) rfl (by kernel_rfl) (by kernel_rfl) (by kernel_rfl) (by kernel_rfl) (fun _ _ _ h => h) (by kernel_rfl) ?_ (by assumption) ?_; rotate_left; (focus (intro w hSw; (try dsimp only at hSw); (try go_split_ands); go_simp <;> with_reducible rfl)); (try simp only [Act.put, lyA, lyB, lyC]); refine takeM 5 rfl (by kernel_rfl) (by kernel_rfl) (by kernel_rfl) (by kernel_rfl) (fun _ _ _ h => h) (by kernel_rfl) (fun wT hST => sh_run_load1 hST rfl rfl 1 rfl rfl (by kernel_rfl)) hHeld ?_; (try simp only [Act.put, lyA, lyB, lyC]); refine takeM 6 (v := ?_) rfl (by kernel_rfl) (by kernel_rfl) (by kernel_rfl) (by kernel_rfl) (fun _ _ _ h => h) (by kernel_rfl) ?_ (by assumption) ?_; rotate_left; (focus (intro w hSw; (try dsimp only at hSw); (try go_split_ands); go_simp <;> with_reducible rfl)); (try simp only [Act.put, lyA, lyB, lyC])
            refine pureM 7 (v := ?_) rfl (by kernel_rfl) (by kernel_rfl) (by kernel_rfl) (by kernel_rfl) (fun _ _ _ h => h) (by kernel_rfl) ?_ (fun _ => by assumption) ?_; rotate_left; (focus (intro w; go_simp <;> with_reducible rfl)); (try simp only [Act.put, lyA, lyB, lyC])
            refine pureM 8 (v := ?_) rfl (by kernel_rfl) (by kernel_rfl) (by kernel_rfl) (by kernel_rfl) (fun _ _ _ h => h) (by kernel_rfl) ?_ (fun _ => by assumption) ?_; rotate_left; (focus (intro w; go_simp <;> with_reducible rfl)); (try simp only [Act.put, lyA, lyB, lyC])
            refine pureM 9 (v := ?_) rfl (by kernel_rfl) (by kernel_rfl) (by kernel_rfl) (by kernel_rfl) (fun _ _ _ h => h) (by kernel_rfl) ?_ (fun _ => by assumption) ?_; rotate_left; (focus (intro w; go_simp <;> with_reducible rfl)); (try simp only [Act.put, lyA, lyB, lyC]); refine takeM 10 (v := ?_) rfl (by kernel_rfl) (by kernel_rfl) (by kernel_rfl) (by kernel_rfl) (fun _ _ _ h => h) (by kernel_rfl) ?_ (by assumption) ?_; rotate_left; (focus (intro w hSw; (try dsimp only at hSw); (try go_split_ands); go_simp <;> with_reducible rfl)); (try simp only [Act.put, lyA, lyB, lyC]); clear hHeld; refine oneM 11 rfl (by kernel_rfl) (by kernel_rfl) (fun K hK => ?_); refine sh_store HHd.out sizeSu rfl rfl rfl 1 rfl rfl (Nat.le_of_ble_eq_true rfl) rfl ?_; intro w7 hh7; have HH7 := Lib.hid hh7; clear hh7 HHd; refine hK.out _ _ (HH7.out.pair 0 2 rfl rfl rfl) (fun hHeld => ?_); clear hK K; (try simp only [Act.put, lyA, lyB, lyC]); refine pureM 12 (v := ?_) rfl (by kernel_rfl) (by kernel_rfl) (by kernel_rfl) (by kernel_rfl) (fun _ _ _ h => h) (by kernel_rfl) ?_ (fun _ => by assumption) ?_; rotate_left; (focus (intro w; go_simp <;> with_reducible rfl)); (try simp only [Act.put, lyA, lyB, lyC]); refine pureM 13 (v := ?_) rfl (by kernel_rfl) (by kernel_rfl) (by kernel_rfl) (by kernel_rfl) (fun _ _ _ h => h) (by kernel_rfl) ?_ (fun _ => by assumption) ?_; rotate_left; (focus (intro w; go_simp <;> with_reducible rfl)); (try simp only [Act.put, lyA, lyB, lyC]); refine freeM 14 rfl (by kernel_rfl) (by kernel_rfl) (by kernel_rfl) (fun K hK => ?_); refine sh_store1 HH7.out rfl rfl rfl 2 rfl (Nat.le_of_ble_eq_true rfl) rfl (by kernel_rfl) ?_; intro w8 h8; refine hK.out _ _ ?_; clear hK K hHeld; (try simp only [Act.put, lyA, lyB, lyC]); refine doneM (by kernel_rfl) ?_; have HH := Lib.hid h8.tail; clear HH7 h8
            go_upto_region 14 with fail
            cases hl : ((ts2.length : Int) == 0) with
            | false =>
              have hl2 : emptyB ts2 = false := by rw [emptyB, beq_eq_false_iff_ne]; simpa using hl
              rw [hl2] at HB2
              have HHd := Lib.hid HH.out.drew; clear HH; refine wp_region_held_drew (S := Heap w [_, _]) (by kernel_rfl) (HHd.out.pair 0 1 rfl rfl rfl) (fun hHeld => ?_); generalize World.drew _ = wd at *; refine takeL 0 rfl (by kernel_rfl) (by kernel_rfl) (by kernel_rfl) (fun _ _ _ h => h) (by kernel_rfl) (fun wT hST => sh_run_load hST sizeRec (by kernel_rfl) rfl rfl 0 rfl (Nat.le_of_ble_eq_true rfl)) hHeld ?_; (try simp only [Act.put, lyA, lyB, lyC]); refine tU 1 rfl (by kernel_rfl) (fun _ _ _ h => h) (by intro w hSw; (try dsimp only at hSw); go_simp <;> with_reducible rfl) (by assumption) ?_; (try simp only [Act.put, lyA, lyB, lyC]); refine tU 2 rfl (by kernel_rfl) (fun _ _ _ h => h) (by intro w hSw; (try dsimp only at hSw); go_simp <;> with_reducible rfl) (by assumption) ?_; (try simp only [Act.put, lyA, lyB, lyC]); refine tU 3 rfl (by kernel_rfl) (fun _ _ _ h => h) (by intro w hSw; (try dsimp only at hSw); go_simp <;> with_reducible rfl) (by assumption) ?_; (try simp only [Act.put, lyA, lyB, lyC]); refine takeL 4 rfl (by kernel_rfl) (by kernel_rfl) (by kernel_rfl) (fun _ _ _ h => h) (by kernel_rfl) (fun wT hST => sh_run_load1 hST rfl rfl 1 rfl rfl (by kernel_rfl)) hHeld ?_; (try simp only [Act.put, lyA, lyB, lyC]); refine tU 5 rfl (by kernel_rfl) (fun _ _ _ h => h) (by intro w hSw; (try dsimp only at hSw); go_simp <;> with_reducible rfl) (by assumption) ?_; (try simp only [Act.put, lyA, lyB, lyC]); refine tU 6 rfl (by kernel_rfl) (fun _ _ _ h => h) (by intro w hSw; (try dsimp only at hSw); go_simp <;> with_reducible rfl) (by assumption) ?_; (try simp only [Act.put, lyA, lyB, lyC]); refine tU 7 rfl (by kernel_rfl) (fun _ _ _ h => h) (by intro w hSw; (try dsimp only at hSw); go_simp <;> with_reducible rfl) (by assumption) ?_; (try simp only [Act.put, lyA, lyB, lyC]); refine tU 8 rfl (by kernel_rfl) (fun _ _ _ h => h) (by intro w hSw; (try dsimp only at hSw); go_simp <;> with_reducible rfl) (by assumption) ?_; (try simp only [Act.put, lyA, lyB, lyC]); refine takeL 9 rfl (by kernel_rfl) (by kernel_rfl) (by kernel_rfl) (fun _ _ _ h => h) (by kernel_rfl) (fun wT hST => sh_run_load1 hST rfl rfl 1 rfl rfl (by kernel_rfl)) hHeld ?_; (try simp only [Act.put, lyA, lyB, lyC]); refine tU 10 rfl (by kernel_rfl) (fun _ _ _ h => h) (by intro w hSw; (try dsimp only at hSw); go_simp <;> with_reducible rfl) (by assumption) ?_; (try simp only [Act.put, lyA, lyB, lyC]); refine tU 11 rfl (by kernel_rfl) (fun _ _ _ h => h) (by intro w hSw; (try dsimp only at hSw); go_simp <;> with_reducible rfl) (by assumption) ?_; (try simp only [Act.put, lyA, lyB, lyC]); refine tU 12 rfl (by kernel_rfl) (fun _ _ _ h => h) (by intro w hSw; (try dsimp only at hSw); go_simp <;> with_reducible rfl) (by assumption) ?_; (try simp only [Act.put, lyA, lyB, lyC]); clear hHeld; refine oneL 13 rfl (by kernel_rfl) (by kernel_rfl) (fun K hK => ?_); refine sh_store HHd.out sizeRec rfl rfl rfl 2 rfl rfl (Nat.le_of_ble_eq_true rfl) rfl ?_; intro w9 hh9; have HH := Lib.hid hh9; clear hh9 HHd; refine hK.out _ _ (HH.out.pair 0 1 rfl rfl rfl) (fun hHeld => ?_); clear hK K; (try simp only [Act.put, lyA, lyB, lyC]); refine tU 14 rfl (by kernel_rfl) (fun _ _ _ h => h) (by intro w hSw; (try dsimp only at hSw); go_simp <;> with_reducible rfl) (by assumption) ?_; (try simp only [Act.put, lyA, lyB, lyC]); refine wpAnyH_done (by kernel_rfl) ?_ _; go_wp2_with fail; refine ret_cell2 sizeRec (by kernel_rfl) HH.out rfl rfl rfl 2 rfl rfl rfl ?_
              rw [HF.out, HB2.out]
              exact ⟨⟨k, ⟨#[]⟩, 0, 0, none, 0, 0, [], 0, 0, ⟨#[]⟩, sa, sb, sc, sd⟩, rfl, rfl, rfl, fun h => absurd rfl h, HH.out.ext⟩
            | true =>
              have hl2 : emptyB ts2 = true := by rw [emptyB, beq_iff_eq]; simpa using hl
              rw [hl2] at HB2
              have HHd := Lib.hid HH.out.drew; clear HH; refine wp_region_held_drew (S := Heap w [_, _]) (by kernel_rfl) (HHd.out.pair 0 1 rfl rfl rfl) (fun hHeld => ?_); generalize World.drew _ = wd at *; refine takeL 0 rfl (by kernel_rfl) (by kernel_rfl) (by kernel_rfl) (fun _ _ _ h => h) (by kernel_rfl) (fun wT hST => sh_run_load hST sizeRec (by kernel_rfl) rfl rfl 0 rfl (Nat.le_of_ble_eq_true rfl)) hHeld ?_; (try simp only [Act.put, lyA, lyB, lyC]); refine tU 1 rfl (by kernel_rfl) (fun _ _ _ h => h) (by intro w hSw; (try dsimp only at hSw); go_simp <;> with_reducible rfl) (by assumption) ?_; (try simp only [Act.put, lyA, lyB, lyC]); refine tU 2 rfl (by kernel_rfl) (fun _ _ _ h => h) (by intro w hSw; (try dsimp only at hSw); go_simp <;> with_reducible rfl) (by assumption) ?_; (try simp only [Act.put, lyA, lyB, lyC]); refine tU 3 rfl (by kernel_rfl) (fun _ _ _ h => h) (by intro w hSw; (try dsimp only at hSw); go_simp <;> with_reducible rfl) (by assumption) ?_; (try simp only [Act.put, lyA, lyB, lyC]); refine takeL 4 rfl (by kernel_rfl) (by kernel_rfl) (by kernel_rfl) (fun _ _ _ h => h) (by kernel_rfl) (fun wT hST => sh_run_load1 hST rfl rfl 1 rfl rfl (by kernel_rfl)) hHeld ?_; (try simp only [Act.put, lyA, lyB, lyC]); refine tU 5 rfl (by kernel_rfl) (fun _ _ _ h => h) (by intro w hSw; (try dsimp only at hSw); go_simp <;> with_reducible rfl) (by assumption) ?_; (try simp only [Act.put, lyA, lyB, lyC]); refine tU 6 rfl (by kernel_rfl) (fun _ _ _ h => h) (by intro w hSw; (try dsimp only at hSw); go_simp <;> with_reducible rfl) (by assumption) ?_; (try simp only [Act.put, lyA, lyB, lyC]); refine tU 7 rfl (by kernel_rfl) (fun _ _ _ h => h) (by intro w hSw; (try dsimp only at hSw); go_simp <;> with_reducible rfl) (by assumption) ?_; (try simp only [Act.put, lyA, lyB, lyC]); refine tU 8 rfl (by kernel_rfl) (fun _ _ _ h => h) (by intro w hSw; (try dsimp only at hSw); go_simp <;> with_reducible rfl) (by assumption) ?_; (try simp only [Act.put, lyA, lyB, lyC]); refine takeL 9 rfl (by kernel_rfl) (by kernel_rfl) (by kernel_rfl) (fun _ _ _ h => h) (by kernel_rfl) (fun wT hST => sh_run_load1 hST rfl rfl 1 rfl rfl (by kernel_rfl)) hHeld ?_; (try simp only [Act.put, lyA, lyB, lyC]); refine tU 10 rfl (by kernel_rfl) (fun _ _ _ h => h) (by intro w hSw; (try dsimp only at hSw); go_simp <;> with_reducible rfl) (by assumption) ?_; (try simp only [Act.put, lyA, lyB, lyC]); refine tU 11 rfl (by kernel_rfl) (fun _ _ _ h => h) (by intro w hSw; (try dsimp only at hSw); go_simp <;> with_reducible rfl) (by assumption) ?_; (try simp only [Act.put, lyA, lyB, lyC]); refine tU 12 rfl (by kernel_rfl) (fun _ _ _ h => h) (by intro w hSw; (try dsimp only at hSw); go_simp <;> with_reducible rfl) (by assumption) ?_; (try simp only [Act.put, lyA, lyB, lyC]); clear hHeld; refine oneL 13 rfl (by kernel_rfl) (by kernel_rfl) (fun K hK => ?_); refine sh_store HHd.out sizeRec rfl rfl rfl 2 rfl rfl (Nat.le_of_ble_eq_true rfl) rfl ?_; intro w9 hh9; have HH := Lib.hid hh9; clear hh9 HHd; refine hK.out _ _ (HH.out.pair 0 1 rfl rfl rfl) (fun hHeld => ?_); clear hK K; (try simp only [Act.put, lyA, lyB, lyC]); refine tU 14 rfl (by kernel_rfl) (fun _ _ _ h => h) (by intro w hSw; (try dsimp only at hSw); go_simp <;> with_reducible rfl) (by assumption) ?_; (try simp only [Act.put, lyA, lyB, lyC]); refine wpAnyH_done (by kernel_rfl) ?_ _; go_wp2_with fail; refine ret_cell2 sizeRec (by kernel_rfl) HH.out rfl rfl rfl 2 rfl rfl rfl ?_
              rw [HF.out, HB2.out]
              exact ⟨⟨k, ⟨#[]⟩, 0, 0, none, 0, 0, [], 0, 0, ⟨#[]⟩, sa, sb, sc, sd⟩, rfl, rfl, rfl, fun h => absurd rfl h, HH.out.ext⟩
open Go.RowKit
set_option linter.unusedVariables false
set_option linter.unusedSimpArgs false
theorem rd_small (l : List UInt8) : (rd l).2.length ≤ 1024 ∧ ∀ s ∈ (rd l).2, s.size ≤ 65536 := by
  by_cases h : (rd l).1 = 0
  · have h1 := rd_back l (rd l).2 (by rw [← h])
    exact (wE_zero _).1 h1.1
  · rw [rd_none l h]
    exact ⟨Nat.zero_le _, fun s hs => by cases hs⟩
theorem numV_bd (l : List UInt8) : 0 ≤ numV l ∧ numV l ≤ 4611686018427387903 := by
  unfold numV
  split
  · decide
  · split
    · decide
    · split
      · decide
      · omega
theorem fV_bd (s : ByteArray) : 0 ≤ fV s ∧ fV s ≤ 4611686018427387903 := by
  unfold fV
  split
  · decide
  · split
    · decide
    · exact numV_bd _
structure Rec.okc (x : Rec) : Prop where
  frm : -9223372036854775808 ≤ x.frm ∧ x.frm ≤ 9223372036854775807
  guid : -9223372036854775808 ≤ x.guid ∧ x.guid ≤ 9223372036854775807
  index : -9223372036854775808 ≤ x.index ∧ x.index ≤ 9223372036854775807
  count : -9223372036854775808 ≤ x.count ∧ x.count ≤ 9223372036854775807
  kind : -9223372036854775808 ≤ x.kind ∧ x.kind ≤ 9223372036854775807
  name : x.name.size ≤ 1000000
  data : x.data.size ≤ 1000000
  own : x.own.length ≤ 100000
  props : ∀ p ∈ x.own, p.name.size ≤ 1000000 ∧ p.value.size ≤ 1000000
  sum : (sumR x).wf
theorem okc_bare {x y : Rec} (h : x.bare = y.bare) (hy : y.okc) : x.okc := by
  obtain ⟨kind, name, frm, guid, oA, on, oc, own, index, count, data, s0, s1, s2, s3⟩ := x
  obtain ⟨kind', name', frm', guid', oA', on', oc', own', index', count', data', t0, t1, t2, t3⟩ := y
  simp only [Rec.bare, Rec.mk.injEq] at h
  obtain ⟨rfl, rfl, rfl, rfl, -, -, -, rfl, rfl, rfl, rfl, rfl, rfl, rfl, rfl⟩ := h
  exact ⟨hy.frm, hy.guid, hy.index, hy.count, hy.kind, hy.name, hy.data, hy.own, hy.props, hy.sum⟩
theorem okc_wf {x : Rec} (h : x.okc) (ho : x.on = x.own.length) : x.wf :=
  ⟨h.frm, h.guid, h.index, h.count, h.kind, Nat.le_trans h.name (by decide), Nat.le_trans h.data (by decide), ho, by have := h.own; omega, fun p hp => ⟨Nat.le_trans (h.props p hp).1 (by decide), Nat.le_trans (h.props p hp).2 (by decide)⟩⟩
theorem pairs_small : ∀ (n : Nat) (l : List ByteArray), l.length ≤ n → (∀ s ∈ l, s.size ≤ 1000000) → (pairs l).1.length ≤ l.length ∧ ∀ p ∈ (pairs l).1, p.name.size ≤ 1000000 ∧ p.value.size ≤ 1000000
  | _, [], _, _ => ⟨Nat.le_refl _, fun p hp => by simp [pairs] at hp⟩
  | _, [s], _, h => ⟨Nat.le_refl _, fun p hp => by
    simp [pairs] at hp
    subst hp
    exact ⟨h s (by simp), Nat.zero_le _⟩⟩
  | 0, s :: v :: r, hn, _ => by simp at hn
  | n + 1, s :: v :: r, hn, h => by
    have ih := pairs_small n r (by simp at hn; omega) (fun x hx => h x (by simp [hx]))
    refine ⟨by simp only [pairs, List.length_cons]; omega, fun p hp => ?_⟩
    simp only [pairs, List.mem_cons] at hp
    rcases hp with rfl | hp
    · exact ⟨h s (by simp), h v (by simp)⟩
    · exact ih.2 p hp
theorem stT_small {l : List ByteArray} {b : Bool} (h : ∀ s ∈ l, s.size ≤ 1000000) : (stT (l, b)).1.size ≤ 1000000 ∧ ∀ s ∈ (stT (l, b)).2.1, s.size ≤ 1000000 := by
  cases l with
  | nil => exact ⟨Nat.zero_le _, fun s hs => by simp [stT] at hs⟩
  | cons x r => exact ⟨h x (by simp), fun s hs => h s (by simp [stT] at hs; simp [hs])⟩
theorem part8_bd (l : List UInt8) (k : Nat) : 0 ≤ part8 l k ∧ part8 l k ≤ 18446744073709551615 := by
  unfold part8
  have h := val_lt ((l.drop (k * 8)).take 8)
  have h2 : ((l.drop (k * 8)).take 8).length ≤ 8 := by simp; omega
  have h3 : (256 : Nat) ^ ((l.drop (k * 8)).take 8).length ≤ 256 ^ 8 := Nat.pow_le_pow_right (by omega) h2
  have h4 : val ((l.drop (k * 8)).take 8) < 18446744073709551616 := Nat.lt_of_lt_of_le h h3
  omega
theorem sumOf_wf (l : List UInt8) : (sumOf l).wf := by
  unfold sumOf
  split
  · exact ⟨part8_bd l 0, part8_bd l 1, part8_bd l 2, part8_bd l 3⟩
  · unfold Su.wf Su.zero
    decide
theorem i64_of_fV (s : ByteArray) : -9223372036854775808 ≤ fV s ∧ fV s ≤ 9223372036854775807 := by have := fV_bd s; omega
theorem readA_okc (k : Int) (ts : List ByteArray) (hk : 0 ≤ k ∧ k ≤ 255) (hl : ts.length ≤ 2000) (hz : ∀ s ∈ ts, s.size ≤ 1000000) : (readA k ts).okc := by
  have z : -9223372036854775808 ≤ (0 : Int) ∧ (0 : Int) ≤ 9223372036854775807 := by decide
  have z0 : (sumR ⟨0, ⟨#[]⟩, 0, 0, none, 0, 0, [], 0, 0, ⟨#[]⟩, 0, 0, 0, 0⟩).wf := by unfold Su.wf; decide
  have hT := stT_small (b := true) hz
  have hkk : -9223372036854775808 ≤ k ∧ k ≤ 9223372036854775807 := by omega
  have e1 : -9223372036854775808 ≤ (1 : Int) ∧ (1 : Int) ≤ 9223372036854775807 := by decide
  have e2 : -9223372036854775808 ≤ (2 : Int) ∧ (2 : Int) ≤ 9223372036854775807 := by decide
  have e3 : -9223372036854775808 ≤ (3 : Int) ∧ (3 : Int) ≤ 9223372036854775807 := by decide
  have hp3 := pairs_small _ (stN (stN (stT (ts, true)).2).2).2.1 (Nat.le_refl _) (by
    have a1 := (stT_small (l := (stT (ts, true)).2.1) (b := (stT (ts, true)).2.2) hT.2).2
    exact (stT_small (l := (stN (stT (ts, true)).2).2.1) (b := (stN (stT (ts, true)).2).2.2) a1).2)
  have hlen : (stN (stN (stT (ts, true)).2).2).2.1.length ≤ ts.length := Nat.le_trans (stN_len _) (Nat.le_trans (stN_len _) (stT_len (ts, true)))
  unfold readA
  by_cases k1 : k = 1
  · rw [if_pos k1]
    refine ⟨i64_of_fV _, i64_of_fV _, z, z, e1, hT.1, Nat.zero_le _, ?_, ?_, z0⟩
    · dsimp only
      split
      · exact Nat.le_trans hp3.1 (Nat.le_trans hlen (Nat.le_trans hl (by decide)))
      · exact Nat.zero_le _
    · dsimp only
      split
      · exact hp3.2
      · intro p hp
        cases hp
  · rw [if_neg k1]
    by_cases k2 : k = 2
    · rw [if_pos k2]
      refine ⟨z, z, i64_of_fV _, z, e2, Nat.zero_le _, ?_, Nat.zero_le _, (fun p hp => (by cases hp)), z0⟩
      exact (stT_small (l := (stN (ts, true)).2.1) (b := (stN (ts, true)).2.2) hT.2).1
    · rw [if_neg k2]
      by_cases k3 : k = 3
      · rw [if_pos k3]
        exact ⟨z, z, i64_of_fV _, i64_of_fV _, e3, Nat.zero_le _, Nat.zero_le _, Nat.zero_le _, (fun p hp => (by cases hp)), z0⟩
      · rw [if_neg k3]
        exact ⟨z, z, z, z, hkk, Nat.zero_le _, Nat.zero_le _, Nat.zero_le _, (fun p hp => (by cases hp)), sumOf_wf _⟩
def psN (l : List UInt8) : Nat := val ((l.drop 1).take 2)
def psT (l : List UInt8) : List UInt8 := (l.drop 3).take (psN l)
def psE (l : List UInt8) : Int :=
  match l with
  | [] => 8
  | b :: _ => if b.toNat < 1 ∨ 4 < b.toNat then 23 else if l.length < 3 then 8 else if l.length < 3 + psN l then 8
    else if (rd (psT l)).1 ≠ 0 ∨ readB b.toNat (rd (psT l)).2 = false then 33 else if recE (readA b.toNat (rd (psT l)).2) ≠ 0 then 9 else 0
def psA (l : List UInt8) : Rec := if psE l = 0 then readA ((l.headD 0).toNat) (rd (psT l)).2 else zeroR'
def psM (l : List UInt8) : Nat := if psE l = 0 then 3 + psN l else 0
def PsOut (w : World) (l : List UInt8) (e : Ending) (w' : World) : Prop :=
  ∃ y : Rec, e = .returned (.tuple #[.agg y.cells.toArray, .int .i64 (psM l), .int .i64 (psE l)]) ∧ y.bare = psA l ∧ y.on = y.own.length ∧ Rd w' w.heap.size w'.heap.size y.oA (prps y.own) ∧ Ext w w'
theorem psOut_zero {w w' : World} {l : List UInt8} {E : Int} (h : psE l = E) (hE : E ≠ 0) (e : Ext w w') : PsOut w l (.returned (.tuple #[.agg zeroR'.cells.toArray, .int .i64 0, .int .i64 E])) w' := by
  subst h
  exact ⟨zeroR', by rw [psM, if_neg hE]; rfl, by rw [psA, if_neg hE]; rfl, rfl, fun h => absurd rfl h, e⟩
section
variable {P : Program} {w0 w : World} {its : List It} {fn : Func} {R : Ending → World → Prop} {a : Act}
theorem ret_cell3 {t : TypeId} {x b p n y z : Nat} {vs : List Value} {v u : Value} (hs : (P.info? t).map (·.size) = some n) (hk : rowK P t = some true) (H : Heap w0 its w) (hres : fn.results = #[.cell x t, .tmp y, .tmp z]) (hx : a.tmps.getD x undef = .pointer (some ⟨b, p, none⟩)) (hy : a.tmps.getD y undef = v) (hz : a.tmps.getD z undef = u) (i : Nat) (hi : its[i]? = some (.box b vs)) (hl : Nat.ble (p + n) vs.length = true)
    (hd : a.defers = []) (hR : R (.returned (.tuple #[.agg ((vs.drop p).take n).toArray, v, u])) w) : bodyPost P fn R .ret a w := by
  refine ⟨hd, _, ?_, hR⟩
  have := sh_loadVar H hs hk i hi (Nat.le_of_ble_eq_true hl)
  have hx' : a.tmps[x]?.getD undef = .pointer (some ⟨b, p, none⟩) := by simpa using hx
  have hy' : a.tmps[y]?.getD undef = v := by simpa using hy
  have hz' : a.tmps[z]?.getD undef = u := by simpa using hz
  simp only [results, hres]
  simp [asAddr, hx', hy', hz', this]
end
end Go.Proofs.YtckaneapjpiocaaGreatDoor
