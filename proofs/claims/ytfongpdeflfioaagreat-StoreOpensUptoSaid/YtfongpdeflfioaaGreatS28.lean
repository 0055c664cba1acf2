/- The texts Rpn, Rpg, Soi, Sop in one file. -/
import Derived.Test.YtfongpdeflfioaaGreatS8
import Derived.Test.YtfongpdeflfioaaGreatS20
import Derived.Test.YtfongpdeflfioaaGreatS10
import Derived.Test.YtfongpdeflfioaaGreatS3
import Derived.Test.YtfongpdeflfioaaGreatS12
import Derived.Test.YtfongpdeflfioaaGreatS7
import Derived.Test.YtfongpdeflfioaaGreatS21
import Derived.Test.YtfongpdeflfioaaGreatS25
import Derived.Test.YtfongpdeflfioaaGreatS2
/- The reference's Number and Put (the first halves of XRnum, XRput, for seats without Of and Num). -/
namespace Go.Proofs.YtfongpdeflfioaaGreat
open Go.RowKit
set_option linter.unusedVariables false
theorem val_mono (l : List UInt8) (k : Nat) : val (l.take k) ≤ val l := by
  have h : ∀ (m : List UInt8) (n : Nat), n ≤ m.foldl (fun n c => n * 256 + c.toNat) n := by
    intro m
    induction m with
    | nil => intro n; exact Nat.le_refl _
    | cons c m ih => intro n; exact Nat.le_trans (show n ≤ n * 256 + c.toNat by omega) (ih _)
  have h2 : val l = (l.drop k).foldl (fun n c => n * 256 + c.toNat) (val (l.take k)) := by
    unfold val
    rw [← List.foldl_append, List.take_append_drop]
  rw [h2]
  exact h _ _
set_option maxHeartbeats 400000 in
theorem rnumber_any (w : World) (A : Option Addr) (n c lo hi : Nat) (l : List UInt8) (hn : n = l.length) (hm : n ≤ 9223372036854775807) (hr : Rd w lo hi A (bytes l)) (hh : hi ≤ w.heap.size) :
    Calls Tryz.prog 72 #[.slice A n c] w fun e w' => e = .returned (.tuple #[.int .i64 (numV l), .int .i64 (numE l)]) ∧ Ext w w' := by
  have Hn := Lib.hid hn
  by_cases h0 : n = 0
  · have hv : Hid (numV l = 0 ∧ numE l = 8) := by rw [numV, numE, if_pos (by omega), if_pos (by omega)]; exact ⟨rfl, rfl⟩
    subst h0
    clear hn
    go_enter Tryz.func72, Tryz.ntmps72
    go_wp2_with fail
    go_ret2
    exact ⟨by rw [hv.out.1, hv.out.2]; rfl, Ext.refl _⟩
  · by_cases h8 : 8 < n
    · have hv : Hid (numV l = 0 ∧ numE l = 5) := by rw [numV, numE, if_neg (by omega), if_pos (by omega), if_neg (by omega), if_pos (by omega)]; exact ⟨rfl, rfl⟩
      have b0 : ((n : Int) == 0) = false := by simp; omega
      clear hn
      go_enter Tryz.func72, Tryz.ntmps72
      go_wp2_with fail
      go_ret2
      exact ⟨by rw [hv.out.1, hv.out.2]; rfl, Ext.refl _⟩
    · have b0 : ((n : Int) == 0) = false := by simp; omega
      have HN : Hid (¬ l.length = 0 ∧ ¬ 8 < l.length) := by rw [← Hn.out]; exact ⟨h0, h8⟩
      clear hn
      go_enter Tryz.func72, Tryz.ntmps72
      go_wp2_with fail
      go_loopw [4, 5] (fun v i wr => ∃ k : Nat, k ≤ n ∧ i = .int .i64 k ∧ v = .int .i64 (val (l.take k)) ∧ val (l.take k) ≤ 4611686018427387903 ∧ Ext w wr) (fun _ i _ => n - (intOf i).toNat)
      case atStart => exact ⟨0, Nat.zero_le _, rfl, rfl, by simp [val], Ext.refl _⟩
      case round =>
        obtain ⟨k, hk, rfl, rfl, hq, e1⟩ := hrel
        by_cases hlt : k < n
        · obtain ⟨b1, o1, rfl, _, _, f0⟩ := rd_byte (hr.ext e1 hh) (k := k) (by rw [← Hn.out]; omega)
          have hvt := Lib.hid (val_take l k (by rw [← Hn.out]; omega))
          have hvm := Lib.hid (val_mono l (k + 1))
          have hc := (l[k]'(by rw [← Hn.out]; omega)).toNat_lt
          generalize l[k]'(by rw [← Hn.out]; omega) = y at *
          generalize val (l.take k) = q at *
          have t0 : (0 : Int) ≤ 4611686018427387903 - (y.toNat : Int) := by omega
          by_cases hbig : 4611686018427387903 < q * 256 + y.toNat
          · have t1 : (4611686018427387903 - (y.toNat : Int)) / 256 < (q : Int) := by omega
            have hv : Hid (numV l = 0 ∧ numE l = 4) := by
              have hb : 4611686018427387903 < val l := by
                have h1 := hvm.out
                rw [hvt.out] at h1
                omega
              rw [numV, numE, if_neg HN.out.1, if_neg HN.out.2, if_neg HN.out.1, if_neg HN.out.2, if_pos hb, if_pos hb]
              exact ⟨rfl, rfl⟩
            go_wp2_with fail
            go_ret2
            exact ⟨by rw [hv.out.1, hv.out.2]; rfl, e1⟩
          · have t1 : (q : Int) ≤ (4611686018427387903 - (y.toNat : Int)) / 256 := by omega
            have t2 : ¬ (4611686018427387903 - (y.toNat : Int)) / 256 < (q : Int) := by omega
            go_wp2_with fail
            go_roundw
            case rel => exact ⟨k + 1, by omega, by go_num, by rw [hvt.out]; simp, by rw [hvt.out]; omega, by exact blo⟩
            case measure => simp [intOf]; omega
        · obtain rfl : k = n := by omega
          have ht : val (l.take k) = val l := by rw [List.take_of_length_le (by rw [← Hn.out]; exact Nat.le_refl _)]
          rw [ht] at hq ⊢
          clear ht
          have hv : Hid (numV l = val l ∧ numE l = 0) := by rw [numV, numE, if_neg HN.out.1, if_neg HN.out.2, if_neg HN.out.1, if_neg HN.out.2, if_neg (by omega), if_neg (by omega)]; exact ⟨rfl, rfl⟩
          go_wp2_with fail
          go_ret2
          exact ⟨by rw [hv.out.1, hv.out.2]; rfl, e1⟩
theorem puts_take (x : Int) (m k : Nat) (hk : k < m) : (puts x m).take (k + 1) = (puts x m).take k ++ [bt x (m - 1 - k)] := by
  rw [List.take_succ_eq_append_getElem (by rw [puts_length]; exact hk)]
  simp [puts]
set_option maxRecDepth 100000 in
set_option maxHeartbeats 400000 in
theorem rput_any (x size : Int) (m : Nat) (hm : m ≤ 8) (hs : size = (m : Int)) (w : World) (hx1 : -9223372036854775808 ≤ x) (hx2 : x ≤ 9223372036854775807) :
    Calls Tryz.prog 107 #[.int .i64 x, .int .i64 size] w fun e w' => ∃ v, e = .returned v ∧ w'.ownsRow w.heap.size 5 1 v m (bytes (puts x m)) ∧ Ext w w' := by
  subst hs
  obtain ⟨i0, hi0, hz0, hz1, hz2⟩ := info_parts info5
  go_enter Tryz.func107, Tryz.ntmps107
  go_wp2_with fail
  go_loopw [5, 6] (fun v i wr => ∃ k : Nat, k ≤ m ∧ i = .int .i64 ((m : Int) - 1 - k) ∧ wr.ownsRow w.heap.size 5 1 v k (bytes ((puts x m).take k)) ∧ Ext w wr) (fun _ i _ => (intOf i + 1).toNat)
  case atStart => exact ⟨0, Nat.zero_le _, by first | (simp; done) | (simp; omega), World.ownsRow_nil _ _ _ _, Ext.refl _⟩
  case round =>
    obtain ⟨k, hk, rfl, hown, e1⟩ := hrel
    by_cases hlt : k < m
    · have htx := Lib.hid (puts_take x m k hlt)
      obtain ⟨j, hj⟩ : ∃ j : Nat, m - 1 - k = j := ⟨_, rfl⟩
      have hji : (m : Int) - 1 - k = j := by omega
      have hj8 : j < 8 := by omega
      rw [hj] at htx
      rw [hji]
      go_wp2_with
        (at_builtin
         refine list_app _ rfl (.tmp 14) (.tmp 20) _ rfl 5 i0 _ 1 1 Tryz.underlying33 hi0 hz0 hz1 hz2 rfl (by omega) w.heap.size _ k _ rfl (hown.alloc _) 0 _ _ 1 1 [.int .u8 (x / 2 ^ (8 * j) % 256)] rfl rfl
           ((rd_new _ _ _).m0) (by simp [Value.oneCell']) (by simp only [maxLen]; omega) (by omega) (by have := e1.size; simp; omega) ?_
         intro v2 w2 hown2 he2 _ _
         have e3 : Ext w w2 := he2 _ (e1.alloc _) (Nat.le_refl _)
         clear he2)
      go_roundw
      case rel =>
        refine ⟨k + 1, by omega, by go_num, ?_, e3⟩
        rw [htx.out, bytes_append]
        have hb : bytes [bt x j] = [.int .u8 (x / 2 ^ (8 * j) % 256)] := by
          have h1 : (256 : Int) ^ j = 2 ^ (8 * j) := by rw [Int.pow_mul]; rfl
          have h2 := bt_zero (x / 256 ^ j)
          have h3 : bt x j = bt (x / 256 ^ j) 0 := by simp [bt]
          rw [h3, bytes, List.map_cons, List.map_nil, h2, h1]
        rw [hb]
        exact hown2
      case measure => (first | (simp [intOf]; done) | (simp [intOf]; omega))
    · go_wp2_with fail
      obtain rfl : k = m := by omega
      go_ret
      exact ⟨_, rfl, by rwa [List.take_of_length_le (by rw [puts_length]; exact Nat.le_refl _)] at hown, e1⟩
end Go.Proofs.YtfongpdeflfioaaGreat
/- godownref07.Page of octets that fit, Unpage of a page. -/
namespace Go.Proofs.YtfongpdeflfioaaGreat
open Go.RowKit Go.Maps Go.Sort Go.Shelf
set_option linter.unusedVariables false
set_option linter.unusedSimpArgs false
def slN : Value → Nat
  | .slice _ n _ => n
  | _ => 0
set_option maxRecDepth 100000 in
set_option maxHeartbeats 4000000 in
theorem rpage_ok (w : World) (A : Option Addr) (n c : Nat) (p : List UInt8) (nx : Nat) (hn : n = p.length) (hr : Rd w 0 w.heap.size A (bytes p)) (hp : p.length ≤ 52) (hx : nx < 8192) :
    Calls Tryz.prog 73 #[.slice A n c, .int .i64 (nx : Int)] w fun e w' => ∃ B d, e = .returned (.tuple #[.slice B 64 d, .int .i64 0]) ∧ w'.ownsRow w.heap.size 5 1 (.slice B 64 d) 64 (bytes (pgB p (nx : Int))) ∧ Ext w w' := by
  obtain ⟨i0, hi0, hz0, hz1, hz2⟩ := info_parts info5
  have HR := Lib.hid hr
  have Hn := Lib.hid hn
  have h52 : n ≤ 52 := by omega
  have q1 : decide ((52 : Int) < (n : Int)) = false := by simp; omega
  have q2 : decide ((8192 : Int) ≤ (nx : Int)) = false := by first | (simp; done) | (simp; omega)
  have q3 : decide ((nx : Int) < 0) = false := by first | (simp; done) | (simp; omega)
  have H0 := Lib.hid (show (puts (p.length : Int) 2 ++ puts (nx : Int) 2 ++ p).length = 4 + n by rw [List.length_append, List.length_append, puts_length, puts_length, hn])
  have HPg := Lib.hid (show pgH p (nx : Int) = (puts (p.length : Int) 2 ++ puts (nx : Int) 2 ++ p) ++ List.replicate (52 - n) 0 by rw [pgH, hn])
  have HPb := Lib.hid (show pgB p (nx : Int) = pgH p (nx : Int) ++ puts (feed Su.zero (pgH p (nx : Int))).a 8 from rfl)
  have HPl := Lib.hid (pgH_len p (nx : Int) hp)
  clear hr hn hp
  go_enter Tryz.func73, Tryz.ntmps73
  go_wp2_with fail
  refine (rput_any (n : Int) 2 2 (by decide) rfl w (by omega) (by omega)).mono ?_
  rintro e w1 ⟨v1, rfl, hown1, e1⟩
  obtain ⟨A1, c1, rfl, _, _, _⟩ := own_form hown1
  have HH := Lib.hid ((Heap.start w).addRow e1 hown1)
  clear hown1 e1
  go_wp2_with fail
  refine (rput_any (nx : Int) 2 2 (by decide) rfl w1 (by omega) (by omega)).mono ?_
  rintro e w2 ⟨v2, rfl, hown2, e2⟩
  obtain ⟨A2, c2, rfl, _, _, _⟩ := own_form hown2
  have HH2 := Lib.hid (HH.out.addRow e2 hown2)
  clear HH hown2 e2
  go_wp2_with (first
    | (at_builtin; refine shl_app (e := 5) (size := 1) (bytes := 1) (news := bytes (puts (nx : Int) 2)) (.tmp 19) (.tmp 21) _ rfl rfl Tryz.underlying33 hi0 hz0 hz1 hz2 rfl (by omega) HH2.out 1 rfl rfl (m := 2) rfl (by rw [bytes_length, puts_length]) (HH2.out.rowRd 0 rfl) (bytes_one _) (by simp only [maxLen]; omega) (by omega) ?_; intro v3 w3 hh3 h3; obtain ⟨A3, c3, rfl⟩ := h3; have HH3 := Lib.hid hh3.tail; clear HH2 hh3)
    | (at_builtin; refine shl_app (e := 5) (size := 1) (bytes := 1) (news := bytes p) (.tmp 22) (.tmp 23) _ rfl rfl Tryz.underlying33 hi0 hz0 hz1 hz2 rfl (by omega) HH3.out 0 rfl rfl (m := n) rfl (by rw [bytes_length, Nat.mul_one]; exact Hn.out.symm) (Rd.at HR.out HH3.out.ext (Nat.le_refl _)) (bytes_one _) (by simp only [maxLen]; omega) (by omega) ?_; intro v4 w4 hh4 h4; obtain ⟨A4, c4, rfl⟩ := h4))
  have HH := Lib.hid (show Heap w [.row 5 1 (.slice A4 (2 + 2 + n) c4) (2 + 2 + n) (bytes ((puts (p.length : Int) 2 ++ puts (nx : Int) 2 ++ p) ++ List.replicate 0 0))] w4 by
    rw [List.replicate_zero, List.append_nil, bytes_append, bytes_append, ← Hn.out]
    exact hh4)
  clear HH3 hh4 H0
  generalize puts (p.length : Int) 2 ++ puts (nx : Int) 2 ++ p = h0 at *
  go_loopw [6] (fun v wr => ∃ (k : Nat) (A : Option Addr) (c : Nat), k + n ≤ 52 ∧ v = .slice A (2 + 2 + n + k) c ∧ Hid (Heap w [.row 5 1 (.slice A (2 + 2 + n + k) c) (2 + 2 + n + k) (bytes (h0 ++ List.replicate k 0))] wr)) (fun v _ => 56 - slN v)
  case atStart => exact ⟨0, A4, c4, by omega, rfl, HH⟩
  case round =>
    clear HH
    obtain ⟨k, A5, c5, hk, rfl, HH⟩ := hrel
    by_cases hlt : k + n < 52
    · have t1 : ((2 + 2 + n + k : Nat) : Int) < 56 := by omega
      have HRp := Lib.hid (List.replicate_succ' (n := k) (a := (0 : UInt8)))
      go_wp2_with (at_builtin; generalize hwA : World.alloc _ _ = w6; have HH6 := Lib.hid (HH.out.allocE hwA); clear HH hwA; refine shl_app (e := 5) (size := 1) (bytes := 1) (news := [.int .u8 0]) (.tmp 28) (.tmp 29) _ rfl rfl Tryz.underlying33 hi0 hz0 hz1 hz2 rfl (by omega) HH6.out 1 rfl rfl (m := 1) rfl rfl (HH6.out.boxRd 0 rfl) (by simp [Value.oneCell']) (by simp only [maxLen]; omega) (by omega) ?_; intro v7 w7 hh7 h7; obtain ⟨A7, c7, rfl⟩ := h7)
      go_roundw
      case rel =>
        refine ⟨k + 1, A7, c7, by omega, rfl, ?_⟩
        have h := hh7.tail
        rw [HRp.out, ← List.append_assoc, bytes_append]
        exact Lib.hid h
      case measure => simp only [slN]; omega
    · obtain rfl : k = 52 - n := by omega
      have t1 : ¬ ((2 + 2 + n + (52 - n) : Nat) : Int) < 56 := by omega
      have HH2 := Lib.hid (show Heap w [.row 5 1 (.slice A5 56 c5) 56 (bytes (pgH p (nx : Int)))] wr by
        rw [HPg.out]
        have h := HH.out
        rw [show 2 + 2 + n + (52 - n) = 56 by omega] at h
        exact h)
      have e56 : 2 + 2 + n + (52 - n) = 56 := by omega
      rw [e56] at t1 ⊢
      clear HH HPg hk hlt e56
      generalize pgH p (nx : Int) = PH at *
      have HFw := Lib.hid (feed_wf Su.zero PH Su.zero_wf)
      have HFe := Lib.hid (rfeed_any wr Su.zero A5 56 c5 PH HPl.out.symm (HH2.out.rowRd 0 rfl |>.m0) (by decide))
      generalize hsF : feed Su.zero PH = sF at *
      clear hsF
      go_wp2_with fail
      refine HFe.out.mono ?_
      rintro e w6 ⟨rfl, e6⟩
      have HH3 := Lib.hid (HH2.out.later e6)
      clear HH2 HFe e6
      go_wp2_with fail
      refine (sumoctets_any sF w6 HFw.out).mono ?_
      rintro e w7 ⟨v7, rfl, hown, e7⟩
      obtain ⟨A7, c7, rfl, k1, k2, _⟩ := own_form hown
      have HH4 := Lib.hid (HH3.out.addRow e7 hown)
      clear HH3 hown e7
      have hs1 := fun W => run_sl_upto (P := Tryz.prog) W 33 5 i0 Tryz.underlying33 hi0 hz1 A7 32 c7 8 8 rfl (Nat.le_trans (by decide) k1)
      have HS8 := Lib.hid (show (bytes (sumO sF)).take 8 = bytes (puts sF.a 8) by
        rw [sumO, List.append_assoc, List.append_assoc, bytes_append, List.take_left' (by rw [bytes_length, puts_length])])
      go_wp2_with (at_builtin; refine shl_app (e := 5) (size := 1) (bytes := 1) (news := bytes (puts sF.a 8)) (.tmp 35) (.tmp 37) _ rfl rfl Tryz.underlying33 hi0 hz0 hz1 hz2 rfl (by omega) HH4.out 1 rfl rfl (m := 8) rfl (by rw [bytes_length, puts_length]) (by rw [← HS8.out]; exact (HH4.out.rowRd 0 rfl).take 8) (bytes_one _) (by simp only [maxLen]; omega) (by omega) ?_; intro v8 w8 hh8 h8; obtain ⟨A8, c8, rfl⟩ := h8)
      go_ret2
      refine ⟨A8, c8, rfl, ?_, hh8.ext⟩
      rw [HPb.out, bytes_append]
      exact hh8.tail.rowAt 0 rfl
set_option maxRecDepth 100000 in
set_option maxHeartbeats 8000000 in
theorem runpage_ok (w : World) (A : Option Addr) (c : Nat) (s : List UInt8) (hr : Rd w 0 w.heap.size A (bytes s)) (hnc : 64 ≤ c) (hm : c ≤ maxLen) (p : List UInt8) (nx : Nat) (hp : p.length ≤ 52) (hx : nx < 8192) (hs : s = pgB p (nx : Int)) :
    Calls Tryz.prog 29 #[.slice A 64 c] w fun e w' => ∃ B d, e = .returned (.tuple #[.slice B p.length d, .int .i64 (nx : Int), .int .i64 0]) ∧ w'.ownsRow w.heap.size 5 1 (.slice B p.length d) p.length (bytes p) ∧ Ext w w' := by
  obtain ⟨i0, hi0, hz0, hz1, hz2⟩ := info_parts info5
  simp only [maxLen] at hm
  obtain ⟨hb1, hb2, hb3⟩ := pgB_back p nx hp hx
  have hl := pgB_len p (nx : Int) hp
  rw [← hs] at hb1 hb2 hb3 hl
  have HR := Lib.hid hr
  have HS := Lib.hid hs
  have HL := Lib.hid hl
  have hN : dcN s ≤ 52 := by
    have h := hb1
    unfold dcOk at h
    simp only [Bool.and_eq_true, decide_eq_true_eq] at h
    exact h.1.1.2
  have hpn : p.length = dcN s := by
    rw [← hb2, dcD, List.length_take, List.length_drop, hl]
    omega
  obtain ⟨b, o, rfl, _, _, _⟩ := hr (fun e => by have := congrArg List.length e; rw [bytes_length, hl] at this; simp at this)
  have HT1 := Lib.hid (show Rd w 0 w.heap.size (some ⟨b, o, none⟩) (bytes (s.take 2)) by rw [← bytes_take]; exact HR.out.take 2)
  have HT2 := Lib.hid (show Rd w 0 w.heap.size (some ⟨b, o + 2, none⟩) (bytes ((s.drop 2).take 2)) by rw [← bytes_take, ← bytes_drop]; exact (HR.out.step 2).take 2)
  have HN1 := Lib.hid (show numV (s.take 2) = (p.length : Int) by rw [hpn]; exact num2 _ (by rw [List.length_take, HL.out]; rfl))
  have HN2 := Lib.hid (show numV ((s.drop 2).take 2) = (nx : Int) by rw [← hb3]; exact num2 _ (by rw [List.length_take, List.length_drop, HL.out]; rfl))
  have HC1 := Lib.hid (fun W (hW : Ext w W) => rnumber_any W (some ⟨b, o, none⟩) 2 c 0 W.heap.size (s.take 2) (by rw [List.length_take, HL.out]; rfl) (by decide) (Rd.at HT1.out hW (Nat.le_refl _)) (Nat.le_refl _))
  have HC2 := Lib.hid (fun W (hW : Ext w W) => rnumber_any W (some ⟨b, o + 2, none⟩) 2 (c - 2) 0 W.heap.size ((s.drop 2).take 2) (by rw [List.length_take, List.length_drop, HL.out]; rfl) (by decide) (Rd.at HT2.out hW (Nat.le_refl _)) (Nat.le_refl _))
  rw [HN1.out] at HC1
  rw [HN2.out] at HC2
  have HD := Lib.hid (show Rd w 0 w.heap.size (some ⟨b, o + 4, none⟩) (bytes p) by rw [← hb2, dcD, ← bytes_take, ← bytes_drop]; exact (HR.out.step 4).take _)
  have hs1 := fun W => run_sl_to (P := Tryz.prog) W 33 5 i0 Tryz.underlying33 hi0 hz1 b o 64 c 2 2 rfl (by omega)
  have hs2 := fun W => run_sl_mid (P := Tryz.prog) W 33 5 i0 Tryz.underlying33 hi0 hz1 b o 64 c 2 4 2 4 rfl rfl (by omega) (by omega) (by omega)
  have hs3 := fun W => run_sl_mid (P := Tryz.prog) W 33 5 i0 Tryz.underlying33 hi0 hz1 b o 64 c 4 (4 + p.length) 4 (4 + (p.length : Int)) rfl (by omega) (by omega) (by omega) (by omega)
  rw [Nat.add_sub_cancel_left] at hs3
  clear HN1 HN2 HT1 HT2 hpn hN hb1 hb2 hb3 hl
  generalize numE (s.take 2) = E1 at *
  generalize numE ((s.drop 2).take 2) = E2 at *
  have HPn := Lib.hid (show p.length = p.length from rfl)
  obtain ⟨n, hn⟩ : ∃ n, n = p.length := ⟨_, rfl⟩
  rw [← hn] at hp hs3 HC1 ⊢
  have Hn := Lib.hid hn
  clear hn hs hr
  have u1 : ¬ (52 : Int) < (n : Int) := by omega
  go_enter Tryz.func29, Tryz.ntmps29
  go_wp2_with (first | (go_at_call 72; refine (HC1.out _ (by exact blo)).mono ?_; clear HC1; rintro e w1 ⟨rfl, e1⟩) | (go_at_call 72; refine (HC2.out _ (by exact blo)).mono ?_; clear HC2; rintro e w2 ⟨rfl, e2⟩))
  have E2' : Ext w w2 := e1.trans e2
  clear e1 e2
  refine (rpage_ok w2 (some ⟨b, o + 4, none⟩) n (c - 4) p nx Hn.out (Rd.at HD.out E2' (Nat.le_refl _)) (by rw [← Hn.out]; exact hp) hx).mono ?_
  rintro e w3 ⟨A3, c3, rfl, hr3, e3⟩
  have E3 : Ext w w3 := E2'.trans e3
  rw [← HS.out] at hr3
  have HO3 := Lib.hid hr3
  clear e3 E2' hr3
  have d1 := run_conv_str w3 33 9 5 Tryz.underlying33 Tryz.underlying5 Tryz.underlying9 0 w3.heap.size A3 64 c3 s HL.out.symm ((Rd.of_own HO3.out).m0)
  have d2 := run_conv_str w3 33 9 5 Tryz.underlying33 Tryz.underlying5 Tryz.underlying9 0 w3.heap.size (some ⟨b, o, none⟩) 64 c s HL.out.symm (Rd.at HR.out E3 (Nat.le_refl _))
  have HH := Lib.hid ((Heap.start w).later E3)
  go_wp2_with (at_builtin; refine shl_app0 (e := 5) (size := 1) (bytes := 1) (news := bytes p) (.tmp 47) (.tmp 51) _ rfl rfl Tryz.underlying33 hi0 hz0 hz1 hz2 rfl (by omega) HH.out rfl (m := n) rfl (by rw [bytes_length, Nat.mul_one]; exact Hn.out.symm) (Rd.at HD.out E3 (Nat.le_refl _)) (bytes_one _) (by simp only [maxLen]; omega) (by omega) ?_; intro v8 w8 hh8 h8; obtain ⟨A8, c8, rfl⟩ := h8)
  go_ret3
  exact ⟨A8, c8, rfl, hh8.rowAt 0 rfl, hh8.ext⟩
end Go.Proofs.YtfongpdeflfioaaGreat
/- godownplain.Ints of lists that are one, store.Used, and the pages of an index. -/
namespace Go.Proofs.YtfongpdeflfioaaGreat
open Go.RowKit Go.Maps Go.Sort Go.Shelf
set_option linter.unusedVariables false
set_option linter.unusedSimpArgs false
set_option maxRecDepth 100000 in
set_option maxHeartbeats 4000000 in
theorem pints_same (w : World) (A B : Option Addr) (n c d lo hi lo' hi' : Nat) (l : List Int) (hn : n = l.length) (hb : n ≤ 9223372036854775807) (hr : Rd w lo hi A (ints l)) (hh : hi ≤ w.heap.size) (hr' : Rd w lo' hi' B (ints l)) (hh' : hi' ≤ w.heap.size) :
    Calls Tryz.prog 28 #[.slice A n c, .slice B n d] w fun e w' => e = .returned (.bool true) ∧ Ext w w' := by
  have Hn := Lib.hid hn
  clear hn
  go_enter Tryz.func28, Tryz.ntmps28
  go_wp2_with fail
  go_loopw [5] (fun i wr => ∃ k : Nat, k ≤ n ∧ i = .int .i64 k ∧ Ext w wr) (fun i _ => n - (intOf i).toNat)
  case atStart => exact ⟨0, Nat.zero_le _, rfl, Ext.refl _⟩
  case round =>
    obtain ⟨k, hk, rfl, e6⟩ := hrel
    by_cases hlt : k < n
    · obtain ⟨b1, o1, rfl, _, f0⟩ := rd_int2 (hr.ext e6 hh) (k := k) (by rw [← Hn.out]; omega)
      obtain ⟨b2, o2, rfl, _, d0⟩ := rd_int2 (hr'.ext e6 hh') (k := k) (by rw [← Hn.out]; omega)
      generalize l[k]'(by rw [← Hn.out]; omega) = y at *
      go_wp2_with fail
      go_quiet (fail)
      go_wp2_with fail
      go_roundw
      case rel => exact ⟨k + 1, by omega, by go_num, by exact blo⟩
      case measure => simp [intOf]; omega
    · go_wp2_with fail
      go_ret
      exact ⟨rfl, e6⟩
set_option maxRecDepth 100000 in
set_option maxHeartbeats 4000000 in
theorem sused_any (w : World) (s : Sto) (h : Sto.At w 0 w.heap.size s) (hT : (usedL s).length ≤ 10000000) :
    Calls Tryz.prog 30 #[.agg s.cells.toArray] w fun e w' => e = .returned (.int .i64 ((usedL s).length : Int)) ∧ Ext w w' := by
  have HU := Lib.hid (fun W (hW : Ext w W) => used_any W s (h.on hW (Nat.le_refl _)) hT)
  generalize usedL s = U at *
  clear h
  obtain ⟨⟨⟨sA, sn, sc, sx⟩, ⟨wA, wn, wc, wx⟩⟩, ⟨ut, uf, uo⟩, ⟨oA, on, oc, ox⟩, ⟨iA, im, ic, ix⟩⟩ := s
  simp only [Sto.cells, Dev.cells, Sl.val] at *
  go_enter Tryz.func30, Tryz.ntmps30
  go_upto_region 1 with fail
  generalize hwH : World.alloc w _ = w1; have HH := Lib.hid (Heap.one hwH); clear hwH
  obtain ⟨sb, hsb⟩ : ∃ b, b = w.heap.size := ⟨_, rfl⟩
  rw [← hsb] at HH ⊢
  clear hsb
  go_wp2_with (refine shl_load HH.out sizeSto (by kernel_rfl) rfl rfl rfl 0 rfl rfl ?_)
  refine (HU.out _ HH.out.ext).mono ?_
  rintro e w2 ⟨v, rfl, hown, e2⟩
  obtain ⟨A2, c2, rfl, _, _, _⟩ := own_form hown
  have HE := Lib.hid (HH.out.ext.trans e2)
  clear HH HU hown e2
  go_wp2_with fail
  go_ret
  exact ⟨rfl, HE.out⟩
theorem partO_pos (b : List UInt8) (k : Nat) (h : k < cntP b.length) : 0 < (partO b k).length := by
  unfold cntP at h
  rw [partO, List.length_take, List.length_drop]
  omega
theorem holds_page {a : Abs} (ha : a.holds) (k : Nat) (hk : k < a.X.length) : ∃ (q nx : Nat) (p : List UInt8), a.X[k] = (q : Int) ∧ q < a.S.length ∧ a.X.getD (k + 1) 0 = (nx : Int) ∧ nx < 8192 ∧ 0 < p.length ∧ p.length ≤ 52 ∧ a.S[q]? = some (pgB p (nx : Int)) := by
  have hU : a.used = a.X ++ a.O.flatMap fun o => o.2.2 := rfl
  have hlo : ∀ y ∈ a.X, 2 ≤ y ∧ y < (a.S.length : Int) := fun y hy => ha.ok.lo y (by rw [hU]; exact List.mem_append_left _ hy)
  have hO : a.O ≠ [] := fun e => by rw [ha.ok.xl e] at hk; exact absurd hk (Nat.not_lt_zero _)
  have h8 := ha.ok.n8
  have h1 := hlo _ (List.getElem_mem hk)
  have h2 : 0 ≤ a.X.getD (k + 1) 0 ∧ a.X.getD (k + 1) 0 < 8192 := by
    rcases Nat.lt_or_ge (k + 1) a.X.length with h | h
    · rw [List.getD_eq_getElem?_getD, List.getElem?_eq_getElem h, Option.getD_some]
      have := hlo _ (List.getElem_mem h)
      omega
    · rw [List.getD_eq_getElem?_getD, List.getElem?_eq_none h, Option.getD_none]; decide
  have h3 := ha.chain k hk
  refine ⟨(a.X[k]).toNat, (a.X.getD (k + 1) 0).toNat, partO (wB (idxS a.O)) k, by omega, by omega, by omega, by omega, ?_, partO_len _ _, ?_⟩
  · exact partO_pos _ _ (by rw [← ha.ok.xn hO]; exact hk)
  · rw [h3, Int.toNat_of_nonneg h2.1]
end Go.Proofs.YtfongpdeflfioaaGreat
/- godownlaw10.StoreOpens: the law's walk. -/
namespace Go.Proofs.YtfongpdeflfioaaGreat
open Go.RowKit Go.Maps Go.Sort Go.Shelf
set_option linter.unusedVariables false
set_option linter.unusedSimpArgs false
theorem kd_abs {o : Sto} {O : List ObS} (h : o.abs.O = O) : o.objs.xs.map kdO = O.map fun o => (o.1, o.2.1) := by
  rw [← h]
  show _ = (o.objs.xs.map strip).map _
  rw [List.map_map]; rfl
set_option maxRecDepth 100000 in
set_option maxHeartbeats 8000000 in
theorem sopens_any (w : World) (n : Int) (a b : Sl Ob) (hn : (Lit.int .i64 n).wf = true) (ha : Sl.At w 0 w.heap.size Ob.cells (Ob.At w 0 w.heap.size) a) (hb : Sl.At w 0 w.heap.size Ob.cells (Ob.At w 0 w.heap.size) b) :
    Calls Tryz.prog 7 #[.int .i64 n, a.val, b.val] w fun e w' => e = .returned (.bool true) ∧ Ext w w' := by
  have HGa := Lib.hid (fun W (hW : Ext w W) => good_any W a (Sl.At.imp ha (rd_on hW (Nat.le_refl _) _ _) (fun x hx => Ob.At.on hx hW (Nat.le_refl _))))
  have HGb := Lib.hid (fun W (hW : Ext w W) => good_any W b (Sl.At.imp hb (rd_on hW (Nat.le_refl _) _ _) (fun x hx => Ob.At.on hx hW (Nat.le_refl _))))
  have HSz := Lib.hid (fun W => size_any W n hn)
  clear ha hb hn
  obtain ⟨aA, an, ac, ax⟩ := a
  obtain ⟨bA, bn, bc, bx⟩ := b
  simp only [Sl.val] at *
  go_enter Tryz.func7, Tryz.ntmps7
  have HH := Lib.hid (Heap.start w)
  go_upto_region 3 with (go_at_call 16; (with_reducible refine (alive10_any _).mono ?_); rintro e wC ⟨rfl, eC⟩; have HHn := Lib.hid (HH.out.later eC); clear HH eC; have HH := HHn; clear HHn)
  go_wp2_with fail
  refine (HSz.out _).mono ?_
  rintro e w1 ⟨k, rfl, k1, k2, rfl⟩
  go_wp2_with fail
  refine (first_yes w1 k (by omega) (by omega)).mono ?_
  rintro e w2 ⟨s, rfl, habs, hho, hw0, hS, e2⟩
  have HH2 := Lib.hid (HH.out.addLook e2 (J := fun W => Sto.At W w1.heap.size w2.heap.size s) (fun _ _ hr hh => hh.imp hr) (Nat.le_refl _) (Nat.le_refl _) hS)
  have HSf := Lib.hid (⟨hho, hw0, by have := congrArg Abs.u habs; show s.ub.txg = 2; rw [show s.ub = _ from this]; rfl⟩ : s.abs.holds ∧ s.dev.waits.n = 0 ∧ s.ub.txg = 2)
  clear HH habs hho hw0 hS e2 HSz k1 k2
  have HH := HH2
  clear HH2
  have HCm := Lib.hid (fun (W : World) (its : List It) (i : Nat) (hH : Heap w its W) (hi : its[i]? = some (It.look (fun W => Sto.At W w1.heap.size w2.heap.size s) w1.heap.size w2.heap.size (fun _ _ hr hh => hh.imp hr))) (g : Sl Ob) (hg : Gd 400 g.xs) (hl : Sl.At W 0 W.heap.size Ob.cells (Ob.At W 0 W.heap.size) g) =>
    commit_good W s ((hH.lookAt i hi).2.imp fun _ _ hr => hr.more (Nat.zero_le _) (hH.lookAt i hi).1) HSf.out.1 HSf.out.2.1 (by rw [HSf.out.2.2]; decide) g hg hl)
  go_upto_region 4 with (first | (refine shl_store (HH.out.alloc _ _) sizeSto rfl rfl rfl rfl 0 rfl rfl rfl rfl ?_; clear HH; intro wS HHS; have HH := Lib.hid HHS; clear HHS))
  go_wp2_with fail
  refine (HGa.out _ HH.out.ext).mono ?_
  rintro e w4 ⟨ga, rfl, hga, gaat, e4⟩
  have HH2 := Lib.hid (HH.out.later e4)
  clear HH HGa e4
  have HH := HH2
  clear HH2
  simp only [Sl.val]
  go_wp2_with fail
  refine (HGb.out _ HH.out.ext).mono ?_
  rintro e w5 ⟨gb, rfl, hgb, gbat, e5⟩
  have HH2 := Lib.hid (HH.out.later e5)
  have HGA := Lib.hid (fun W (hW : Ext w5 W) => show Sl.At W 0 W.heap.size Ob.cells (Ob.At W 0 W.heap.size) ga from Sl.At.imp gaat (rd_on (e5.trans hW) (Nat.le_refl _) _ _) (fun x hx => Ob.At.on hx (e5.trans hW) (Nat.le_refl _)))
  have HGB := Lib.hid (fun W (hW : Ext w5 W) => show Sl.At W 0 W.heap.size Ob.cells (Ob.At W 0 W.heap.size) gb from Sl.At.imp gbat (rd_on hW (Nat.le_refl _) _ _) (fun x hx => Ob.At.on hx hW (Nat.le_refl _)))
  have HGg := Lib.hid (⟨hga, hgb⟩ : Gd 400 ga.xs ∧ Gd 400 gb.xs)
  clear HH HGb e5 gaat gbat hga hgb
  have HH := HH2
  clear HH2
  simp only [Sl.val]
  go_upto_region 5 with fail
  go_wp2_with (refine shl_load HH.out sizeSto (by kernel_rfl) rfl rfl rfl 0 rfl rfl ?_)
  refine (HCm.out _ _ 1 HH.out rfl ga HGg.out.1 (HGA.out _ (Ext.refl _))).mono ?_
  have HEw := Lib.hid HH.out.ext
  clear HCm
  rintro e w6 (⟨rfl, e6⟩ | ⟨t, acts, A, c, WW, rfl, _, _, _, hlaw, htA, e6⟩)
  · have HH2 := Lib.hid (HH.out.later e6)
    clear HH e6
    have HH := HH2
    clear HH2
    go_wp2_with (first | (refine shl_store (HH.out.alloc _ _) sizeSto rfl rfl rfl rfl 0 rfl rfl rfl rfl ?_; clear HH; intro wS HHS; have HH := Lib.hid HHS; clear HHS) | (go_at_call 21; (refine (num10_any _ _).mono ?_); rintro e wN ⟨rfl, rfl⟩))
    go_ret
    exact ⟨rfl, HH.out.ext⟩
  · have HH2 := Lib.hid ((Heap.start w5).addLook e6 (J := fun W => Sto.At W w5.heap.size w6.heap.size t) (fun _ _ hr hh => hh.imp hr) (Nat.le_refl _) (Nat.le_refl _) htA)
    have HTl := Lib.hid (⟨hlaw.holds, hlaw.wait, by rw [hlaw.txg, HSf.out.2.2]; decide, hlaw.kd⟩ : t.abs.holds ∧ t.dev.waits.n = 0 ∧ t.ub.txg < 1099511627776 ∧ t.abs.O.map (fun o => (o.1, o.2.1)) = ga.xs.map fun x => (x.key, x.data.xs))
    clear HH hlaw htA e6 HSf
    have HH := HH2
    clear HH2
    simp only [Sto.cells, Dev.cells, Sl.val]
    go_upto_region 6 with (refine shl_store (HH.out.alloc _ _) sizeSto rfl rfl rfl rfl 0 rfl rfl rfl rfl ?_; clear HH; intro wS HHS; have HH := Lib.hid HHS; clear HHS)
    obtain ⟨tb, htb⟩ : ∃ b, b = w6.heap.size := ⟨_, rfl⟩
    rw [← htb] at HH ⊢
    have HTb := Lib.hid htb
    clear htb
    go_upto_region 8 with (go_at_call 21; (refine (num10_any _ _).mono ?_); rintro e wN ⟨rfl, rfl⟩)
    have HT := Lib.hid (show Sto.At wN 0 wN.heap.size t from (HH.out.lookAt 1 rfl).2.imp fun _ _ hr => hr.more (Nat.zero_le _) (HH.out.lookAt 1 rfl).1)
    have g0 := (HH.out.boxAt 0 rfl).cell 0 _ rfl
    have g1 := (HH.out.boxAt 0 rfl).cell 1 _ rfl
    go_wp2_with fail
    clear g0 g1
    refine (open_ok wN t.dev HT.out.dev HTl.out.2.1 t.abs rfl HTl.out.1).mono ?_
    rintro e w8 ⟨o, rfl, hoabs, how, hoA, e8⟩
    have HO := Lib.hid (⟨by rw [hoabs]; exact HTl.out.1, how, by rw [show o.ub = t.ub from congrArg Abs.u hoabs]; exact HTl.out.2.2.1, (kd_abs (congrArg Abs.O hoabs)).trans HTl.out.2.2.2, congrArg Abs.X hoabs⟩ : o.abs.holds ∧ o.dev.waits.n = 0 ∧ o.ub.txg < 1099511627776 ∧ o.objs.xs.map kdO = ga.xs.map kdO ∧ o.idx.xs = t.idx.xs)
    have HU := Lib.hid (show o.ub = t.ub from congrArg Abs.u hoabs)
    have HT8 := Lib.hid (fun (W : World) (hW : Ext w8 W) => show Sto.At W 0 W.heap.size t from HT.out.on (e8.trans hW) (Nat.le_refl _))
    have HO8 := Lib.hid (fun (W : World) (hW : Ext w8 W) => show Sto.At W 0 W.heap.size o from (hoA.on hW (Nat.le_refl _)).imp fun _ _ hr => hr.m0)
    have hbx := HH.out.boxAt 0 rfl
    have hx2 := hbx.cell 2 _ rfl
    have hx3 := hbx.cell 3 _ rfl
    have hx4 := hbx.cell 4 _ rfl
    have hx6 := hbx.cell 6 _ rfl
    have HTB := Lib.hid (fun (W : World) (hW : Ext w8 W) => show W.cell? ⟨tb, 2, none⟩ = some (.int .i64 t.ub.txg) ∧ W.cell? ⟨tb, 3, none⟩ = some (.int .i64 t.ub.first) ∧ W.cell? ⟨tb, 4, none⟩ = some (.int .i64 t.ub.objs) ∧ W.cell? ⟨tb, 6, none⟩ = some (.slice t.idx.A t.idx.n t.idx.c) from
      ⟨(Below.cell (e8.trans hW) hbx.lt).trans hx2, (Below.cell (e8.trans hW) hbx.lt).trans hx3, (Below.cell (e8.trans hW) hbx.lt).trans hx4, (Below.cell (e8.trans hW) hbx.lt).trans hx6⟩)
    have HGA8 := Lib.hid (fun W (hW : Ext w8 W) => HGA.out W ((HH.out.ext.trans e8).trans hW))
    have HGB8 := Lib.hid (fun W (hW : Ext w8 W) => HGB.out W ((HH.out.ext.trans e8).trans hW))
    have HEw3 := Lib.hid ((HEw.out.trans HH.out.ext).trans e8)
    clear HH hbx hx2 hx3 hx4 hx6 HGA HGB HT hoA hoabs how e8 HEw HTb
    have HH := Lib.hid (Heap.start w8)
    simp only [Sto.cells, Dev.cells, Sl.val]
    go_upto_region 9 with (refine shl_store (HH.out.alloc _ _) sizeSto rfl rfl rfl rfl 0 rfl rfl rfl rfl ?_; clear HH; intro wS HHS; have HH := Lib.hid HHS; clear HHS)
    obtain ⟨ob, hob⟩ : ∃ b, b = w8.heap.size := ⟨_, rfl⟩
    rw [← hob] at HH ⊢
    clear hob
    have HH2 := Lib.hid (show Heap w8 [.box ob [.slice o.dev.secs.A o.dev.secs.n o.dev.secs.c, .slice o.dev.waits.A o.dev.waits.n o.dev.waits.c, .int .i64 o.ub.txg, .int .i64 o.ub.first, .int .i64 o.ub.objs, .slice o.objs.A o.objs.n o.objs.c, .slice o.idx.A o.idx.n o.idx.c]] wS from HH.out)
    clear HH
    have HH := HH2
    clear HH2
    have HHs := Lib.hid (fun (W : World) (hW : Ext w8 W) => show Calls Tryz.prog 25 #[.agg #[.slice o.dev.secs.A o.dev.secs.n o.dev.secs.c, .slice o.dev.waits.A o.dev.waits.n o.dev.waits.c, .int .i64 o.ub.txg, .int .i64 o.ub.first, .int .i64 o.ub.objs, .slice o.objs.A o.objs.n o.objs.c, .slice o.idx.A o.idx.n o.idx.c], .slice ga.A ga.n ga.c] W (fun e w' => e = .returned (.bool true) ∧ Ext W w') from by
      refine (hst_any W o ga (HO8.out W hW) (HGA8.out W hW)).mono ?_
      rintro e w' ⟨rfl, ee⟩
      exact ⟨by rw [show hsB o.objs.xs ga.xs = true from decide_eq_true HO.out.2.2.2.1], ee⟩)
    go_wp2_with (go_at_call 21; (refine (num10_any _ _).mono ?_); rintro e wN ⟨rfl, rfl⟩; have g0 := (HH.out.boxAt 0 rfl).cell 0 _ rfl; have g1 := (HH.out.boxAt 0 rfl).cell 1 _ rfl; have g2 := (HH.out.boxAt 0 rfl).cell 2 _ rfl; have g3 := (HH.out.boxAt 0 rfl).cell 3 _ rfl; have g4 := (HH.out.boxAt 0 rfl).cell 4 _ rfl; have g5 := (HH.out.boxAt 0 rfl).cell 5 _ rfl; have g6 := (HH.out.boxAt 0 rfl).cell 6 _ rfl)
    clear g0 g1 g2 g3 g4 g5 g6
    refine (HHs.out _ HH.out.ext).mono ?_
    rintro e w9 ⟨rfl, e9⟩
    have HH2 := Lib.hid (HH.out.later e9)
    clear HH e9 HHs
    have HH := HH2
    clear HH2
    rw [HU.out] at HH
    have g2 := (HH.out.boxAt 0 rfl).cell 2 _ rfl
    have g3 := (HH.out.boxAt 0 rfl).cell 3 _ rfl
    have g4 := (HH.out.boxAt 0 rfl).cell 4 _ rfl
    have g6 := (HH.out.boxAt 0 rfl).cell 6 _ rfl
    obtain ⟨c2', c3', c4', c6'⟩ := HTB.out _ HH.out.ext
    go_wp2_with fail
    clear g2 g3 g4 g6 c2' c3' c4' c6'
    have HIn := Lib.hid (fun (W : World) (hW : Ext w8 W) => show Calls Tryz.prog 28 #[.slice o.idx.A o.idx.n o.idx.c, .slice t.idx.A t.idx.n t.idx.c] W (fun e w' => e = .returned (.bool true) ∧ Ext W w') from by
      have h1 := (HO8.out W hW).idx
      have h2 := (HT8.out W hW).idx
      have h3 : o.idx.n = t.idx.n := by rw [h1.len, h2.len, HO.out.2.2.2.2]
      have h4 := h1.rdi
      rw [HO.out.2.2.2.2] at h4
      rw [h3]
      exact pints_same W _ _ _ _ _ 0 W.heap.size 0 W.heap.size t.idx.xs h2.len (Nat.le_trans h2.le h2.cap) h4 (Nat.le_refl _) h2.rdi (Nat.le_refl _))
    refine (HIn.out _ HH.out.ext).mono ?_
    rintro e w10 ⟨rfl, e10⟩
    have HH2 := Lib.hid (HH.out.later e10)
    clear HH e10 HIn HTB
    have HH := HH2
    clear HH2
    rw [← HU.out] at HH
    have HCm := Lib.hid (fun (W : World) (hW : Ext w8 W) => commit_good W o (HO8.out W hW) HO.out.1 HO.out.2.1 HO.out.2.2.1 gb HGg.out.2 (HGB8.out W hW))
    go_upto_region 11 with fail
    go_wp2_with (refine shl_load HH.out sizeSto (by kernel_rfl) rfl rfl rfl 0 rfl rfl ?_)
    refine (HCm.out _ HH.out.ext).mono ?_
    rintro e w11 (⟨rfl, e11⟩ | ⟨u, acts2, A2, c2, W2, rfl, _, _, _, hlaw, huA, e11⟩)
    · have HE := Lib.hid (HEw3.out.trans (HH.out.ext.trans e11))
      have HH2 := Lib.hid (HH.out.later e11)
      clear HH e11
      have HH := HH2
      clear HH2
      go_wp2_with (first | (refine shl_store (HH.out.alloc _ _) sizeSto rfl rfl rfl rfl 0 rfl rfl rfl rfl ?_; clear HH; intro wS HHS; have HH := Lib.hid HHS; clear HHS) | (go_at_call 21; (refine (num10_any _ _).mono ?_); rintro e wN ⟨rfl, rfl⟩))
      go_ret
      exact ⟨rfl, HEw3.out.trans HH.out.ext⟩
    · have HEw4 := Lib.hid (HEw3.out.trans (HH.out.ext.trans e11))
      have HGB9 := Lib.hid (fun W (hW : Ext w11 W) => HGB8.out W ((HH.out.ext.trans e11).trans hW))
      have HU9 := Lib.hid (fun (W : World) (hW : Ext w11 W) => show Sto.At W 0 W.heap.size u from (huA.on hW (Nat.le_refl _)).imp fun _ _ hr => hr.m0)
      have HUl := Lib.hid (⟨hlaw.holds, hlaw.wait, hlaw.kd⟩ : u.abs.holds ∧ u.dev.waits.n = 0 ∧ u.abs.O.map (fun o => (o.1, o.2.1)) = gb.xs.map fun x => (x.key, x.data.xs))
      clear HH HCm HO8 HT8 HO HU hlaw huA e11 HGA8 HGB8 HEw3 HGg HTl
      have HH := Lib.hid (Heap.start w11)
      simp only [Sto.cells, Dev.cells, Sl.val]
      go_upto_region 12 with (refine shl_store (HH.out.alloc _ _) sizeSto rfl rfl rfl rfl 0 rfl rfl rfl rfl ?_; clear HH; intro wS HHS; have HH := Lib.hid HHS; clear HHS)
      obtain ⟨ub, hub⟩ : ∃ b, b = w11.heap.size := ⟨_, rfl⟩
      rw [← hub] at HH ⊢
      clear hub
      have HH2 := Lib.hid (show Heap w11 [.box ub [.slice u.dev.secs.A u.dev.secs.n u.dev.secs.c, .slice u.dev.waits.A u.dev.waits.n u.dev.waits.c, .int .i64 u.ub.txg, .int .i64 u.ub.first, .int .i64 u.ub.objs, .slice u.objs.A u.objs.n u.objs.c, .slice u.idx.A u.idx.n u.idx.c]] wS from HH.out)
      clear HH
      have HH := HH2
      clear HH2
      go_upto_region 14 with (go_at_call 21; (refine (num10_any _ _).mono ?_); rintro e wN ⟨rfl, rfl⟩)
      have g0 := (HH.out.boxAt 0 rfl).cell 0 _ rfl
      have g1 := (HH.out.boxAt 0 rfl).cell 1 _ rfl
      go_wp2_with fail
      clear g0 g1
      refine (open_ok wN u.dev (HU9.out _ HH.out.ext).dev HUl.out.2.1 u.abs rfl HUl.out.1).mono ?_
      rintro e w12 ⟨p, rfl, hpabs, hpw, hpA, e12⟩
      have HPx := Lib.hid (⟨congrArg Abs.X hpabs, (kd_abs (congrArg Abs.O hpabs)).trans HUl.out.2.2, by rw [← used_abs, ← used_abs, hpabs]⟩ : p.idx.xs = u.abs.X ∧ p.objs.xs.map kdO = gb.xs.map kdO ∧ usedL p = usedL u)
      have HUs := Lib.hid (show (usedL u).length ≤ 10000000 by rw [← used_abs]; have := used_len HUl.out.1.ok; omega)
      have HH2 := Lib.hid (HH.out.addLook e12 (J := fun W => Sto.At W wN.heap.size w12.heap.size p) (fun _ _ hr hh => hh.imp hr) (Nat.le_refl _) (Nat.le_refl _) hpA)
      clear HH e12 hpabs hpw hpA
      have HH := HH2
      clear HH2
      simp only [Sto.cells, Dev.cells, Sl.val]
      generalize hlo : wN.heap.size = lo at *
      clear hlo
      go_upto_region 15 with (refine shl_store (HH.out.alloc _ _) sizeSto rfl rfl rfl rfl 0 rfl rfl rfl rfl ?_; clear HH; intro wS HHS; have HH := Lib.hid HHS; clear HHS)
      obtain ⟨pb, hpb⟩ : ∃ b, b = w12.heap.size := ⟨_, rfl⟩
      rw [← hpb] at HH ⊢
      obtain ⟨hi, hhi⟩ : ∃ hi, hi = w12.heap.size := ⟨_, rfl⟩
      have HH2 := Lib.hid (show ∃ hi, Heap w11 [.box pb [.slice p.dev.secs.A p.dev.secs.n p.dev.secs.c, .slice p.dev.waits.A p.dev.waits.n p.dev.waits.c, .int .i64 p.ub.txg, .int .i64 p.ub.first, .int .i64 p.ub.objs, .slice p.objs.A p.objs.n p.objs.c, .slice p.idx.A p.idx.n p.idx.c], It.look (fun W => Sto.At W lo hi p) lo hi (fun _ _ hr hh => hh.imp hr), .box ub [.slice u.dev.secs.A u.dev.secs.n u.dev.secs.c, .slice u.dev.waits.A u.dev.waits.n u.dev.waits.c, .int .i64 u.ub.txg, .int .i64 u.ub.first, .int .i64 u.ub.objs, .slice u.objs.A u.objs.n u.objs.c, .slice u.idx.A u.idx.n u.idx.c]] wS from ⟨_, HH.out⟩)
      clear HH hpb hhi
      obtain ⟨hi, HH2⟩ := HH2.out
      have HH := Lib.hid HH2
      clear HH2
      have HPA := Lib.hid (fun (W : World) (hH : Heap w11 [.box pb [.slice p.dev.secs.A p.dev.secs.n p.dev.secs.c, .slice p.dev.waits.A p.dev.waits.n p.dev.waits.c, .int .i64 p.ub.txg, .int .i64 p.ub.first, .int .i64 p.ub.objs, .slice p.objs.A p.objs.n p.objs.c, .slice p.idx.A p.idx.n p.idx.c], It.look (fun W => Sto.At W lo hi p) lo hi (fun _ _ hr hh => hh.imp hr), .box ub [.slice u.dev.secs.A u.dev.secs.n u.dev.secs.c, .slice u.dev.waits.A u.dev.waits.n u.dev.waits.c, .int .i64 u.ub.txg, .int .i64 u.ub.first, .int .i64 u.ub.objs, .slice u.objs.A u.objs.n u.objs.c, .slice u.idx.A u.idx.n u.idx.c]] W) => show Sto.At W 0 W.heap.size p from (hH.lookAt 1 rfl).2.imp fun _ _ hr => hr.more (Nat.zero_le _) (hH.lookAt 1 rfl).1)
      go_wp2_with fail
      go_loopw [19, 20, 21, 22] (fun v _ _ _ wr => ∃ k : Nat, k ≤ p.idx.n ∧ v = .int .i64 (k : Int) ∧ Hid (Heap w11 [.box pb [.slice p.dev.secs.A p.dev.secs.n p.dev.secs.c, .slice p.dev.waits.A p.dev.waits.n p.dev.waits.c, .int .i64 p.ub.txg, .int .i64 p.ub.first, .int .i64 p.ub.objs, .slice p.objs.A p.objs.n p.objs.c, .slice p.idx.A p.idx.n p.idx.c], It.look (fun W => Sto.At W lo hi p) lo hi (fun _ _ hr hh => hh.imp hr), .box ub [.slice u.dev.secs.A u.dev.secs.n u.dev.secs.c, .slice u.dev.waits.A u.dev.waits.n u.dev.waits.c, .int .i64 u.ub.txg, .int .i64 u.ub.first, .int .i64 u.ub.objs, .slice u.objs.A u.objs.n u.objs.c, .slice u.idx.A u.idx.n u.idx.c]] wr)) (fun v _ _ _ _ => p.idx.n - (intOf v).toNat)
      case atStart => exact ⟨0, Nat.zero_le _, rfl, HH⟩
      case round =>
        clear HH
        obtain ⟨k, hk, rfl, HH⟩ := hrel
        have HE := Lib.hid HH.out.ext
        by_cases hlt : k < p.idx.n
        · have hpi := (HPA.out wr HH.out).idx
          have hl := hpi.len
          have hpn : p.idx.n ≤ 9223372036854775807 := Nat.le_trans (Nat.le_trans hpi.le hpi.cap) (by decide)
          have hkl : k < p.idx.xs.length := by rw [← hl]; exact hlt
          have hX := HPx.out.1
          obtain ⟨lb, lo', hlA, hlb, f0⟩ := rd_int2 hpi.rdi hkl
          obtain ⟨q, nx, pt, hq1, hq2, hq3, hq4, hq5, hq6, hq7⟩ := holds_page HUl.out.1 k (by rw [← hX]; exact hkl)
          have hus := (HU9.out wr HE.out).dev.secs
          have hql : q < u.dev.secs.xs.length := by have h := hq2; rw [show u.abs.S = u.dev.secs.xs.map (fun o => o.xs) from rfl, List.length_map] at h; exact h
          obtain ⟨sb, so, hsA, _, hsb, G⟩ := rd_flat (size := 1) (fun _ => rfl) (by omega) hus.rd hql
          have HSO := Lib.hid (hus.all _ (List.getElem_mem hql))
          have HSx := Lib.hid (show (u.dev.secs.xs[q]).xs = pgB pt (nx : Int) from sec_at (S := u.abs.S) rfl hq7 hql)
          have HIx := Lib.hid (show p.idx.xs[k] = (q : Int) by rw [← hq1]; congr 1)
          rw [HIx.out] at f0
          have g0 := G 0 _ rfl
          simp only [Nat.mul_one, Nat.add_zero] at g0
          clear G
          generalize u.dev.secs.xs[q] = se at *
          obtain ⟨eA, en, ec, ex⟩ := se
          simp only [Sl.val] at g0
          dsimp only at HSx
          have hqn : (q : Int) < (u.dev.secs.n : Int) := by have := hus.len; omega
          have hen : en = 64 := by have h := HSO.out.len; dsimp only at h; rw [h, HSx.out]; exact pgB_len _ _ hq6
          subst hen
          have hkn : (k : Int) < (p.idx.n : Int) := by omega
          have HQ := Lib.hid (⟨hq4, hq6⟩ : nx < 8192 ∧ pt.length ≤ 52)
          obtain ⟨m, hm⟩ : ∃ m, m = pt.length := ⟨_, rfl⟩
          have hp0 : ((m : Int) == 0) = false := by rw [beq_eq_false_iff_ne]; omega
          have c0 : ∀ w', Ext wr w' → w'.cell? ⟨ub, 0, none⟩ = some (.slice (some ⟨sb, so, none⟩) u.dev.secs.n u.dev.secs.c) := fun w' hw => by rw [← hsA]; exact (Below.cell hw (HH.out.boxAt 2 rfl).lt).trans ((HH.out.boxAt 2 rfl).cell 0 _ rfl)
          have c1 : ∀ w', Ext wr w' → w'.cell? ⟨pb, 6, none⟩ = some (.slice (some ⟨lb, lo', none⟩) p.idx.n p.idx.c) := fun w' hw => by rw [← hlA]; exact (Below.cell hw (HH.out.boxAt 0 rfl).lt).trans ((HH.out.boxAt 0 rfl).cell 6 _ rfl)
          have c2 : ∀ w', Ext wr w' → w'.cell? ⟨lb, lo' + k, none⟩ = some (.int .i64 (q : Int)) := fun w' hw => (Below.cell hw hlb).trans f0
          have c3 : ∀ w', Ext wr w' → w'.cell? ⟨sb, so + q, none⟩ = some (.slice eA 64 ec) := fun w' hw => (Below.cell hw hsb).trans g0
          have HNx := Lib.hid (show k + 1 < p.idx.n → ∀ w', Ext wr w' → w'.cell? ⟨lb, lo' + (k + 1), none⟩ = some (.int .i64 (nx : Int)) from fun h w' hw => by
            have hkl2 : k + 1 < p.idx.xs.length := by rw [← hl]; exact h
            obtain ⟨lb2, lo2, hh, hlb2, f2⟩ := rd_int2 hpi.rdi hkl2
            rw [hlA] at hh
            obtain ⟨rfl, rfl⟩ : lb = lb2 ∧ lo' = lo2 := by simpa using hh
            rw [Below.cell hw hlb2, f2]
            rw [← hq3, ← hX, List.getD_eq_getElem?_getD, List.getElem?_eq_getElem hkl2, Option.getD_some])
          have HRn := Lib.hid (fun (W : World) (hW : Ext wr W) => show Calls Tryz.prog 29 #[.slice eA 64 ec] W (fun e w' => ∃ B d, e = .returned (.tuple #[.slice B m d, .int .i64 (nx : Int), .int .i64 0]) ∧ Ext W w') from (runpage_ok W eA ec ex (Rd.at HSO.out.rdb hW (Nat.le_refl _)) HSO.out.le HSO.out.cap pt nx HQ.out.2 HQ.out.1 HSx.out).mono (by
            rintro e w' ⟨B, d, rfl, _, ee⟩
            exact ⟨B, d, by rw [hm], ee⟩))
          clear hm hpi hl hX hlA hlb f0 hq1 hq2 hq3 hq4 hq5 hq6 hq7 hus hsA hsb g0 HSO HSx HIx hql hkl
          have c1' := c1 wr (Ext.refl _)
          go_upto_region 18 with fail
          clear c1'
          refine wp_region_held_drew (S := fun w' => Ext wr w') (by kernel_rfl) (Ext.drew (Ext.refl wr)) (fun hHeld => ?_)
          generalize World.drew wr = wd at *
          refine tS 0 ?_; (try simp only [Act.put, lyA, lyB, lyC])
          refine tS 1 ?_; (try simp only [Act.put, lyA, lyB, lyC])
          refine tS 2 ?_; (try simp only [Act.put, lyA, lyB, lyC])
          refine tS 3 ?_; (try simp only [Act.put, lyA, lyB, lyC])
          refine tS 4 ?_; (try simp only [Act.put, lyA, lyB, lyC])
          refine tS 5 ?_; (try simp only [Act.put, lyA, lyB, lyC])
          refine tS 6 ?_; (try simp only [Act.put, lyA, lyB, lyC])
          refine tS 7 ?_; (try simp only [Act.put, lyA, lyB, lyC])
          refine tS 8 ?_; (try simp only [Act.put, lyA, lyB, lyC])
          refine tS 9 ?_; (try simp only [Act.put, lyA, lyB, lyC])
          refine oS 10 (fun K hK => ?_)
          go_simp
          refine (HRn.out _ hHeld).mono ?_
          rintro e w2 ⟨B, dd, rfl, e2⟩
          have E2 := Ext.trans hHeld e2
          have HE2 := Lib.hid E2
          have d1 := c1 w2 E2
          have HNx2 := Lib.hid (fun h => HNx.out h w2 E2)
          clear c0 c1 c2 c3 HNx HRn e2 E2
          go_wp2_with fail
          refine hK.out _ _ HE2.out (fun hHeld => ?_)
          clear hK K
          (try simp only [Act.put, lyA, lyB, lyC])
          refine tS 11 ?_; (try simp only [Act.put, lyA, lyB, lyC])
          refine tS 12 ?_; (try simp only [Act.put, lyA, lyB, lyC])
          refine tS 13 ?_; (try simp only [Act.put, lyA, lyB, lyC])
          refine tS 14 ?_; (try simp only [Act.put, lyA, lyB, lyC])
          refine tS 15 ?_; (try simp only [Act.put, lyA, lyB, lyC])
          refine tS 16 ?_; (try simp only [Act.put, lyA, lyB, lyC])
          refine tS 17 ?_; (try simp only [Act.put, lyA, lyB, lyC])
          refine wpAnyH_done (by kernel_rfl) ?_ _
          clear hHeld
          by_cases hnx : k + 1 < p.idx.n
          · have hnx1 : ((k : Int) + 1 < (p.idx.n : Int)) := by omega
            have d2 := HNx2.out hnx
            go_wp2_with fail
            go_roundw
            case rel => exact ⟨k + 1, by omega, by go_num, Lib.hid (HH.out.later HE2.out)⟩
            case measure => (first | (simp [intOf]; done) | (simp [intOf]; omega))
          · have hnx1 : ¬ ((k : Int) + 1 < (p.idx.n : Int)) := by omega
            go_wp2_with fail
            go_roundw
            case rel => exact ⟨k + 1, by omega, by go_num, Lib.hid (HH.out.later HE2.out)⟩
            case measure => (first | (simp [intOf]; done) | (simp [intOf]; omega))
        · have g6 := (HH.out.boxAt 0 rfl).cell 6 _ rfl
          have hkn : ¬ (k : Int) < (p.idx.n : Int) := by omega
          go_upto_region 21 with fail
          clear g6
          have HB := Lib.hid (show hsB p.objs.xs gb.xs = true from decide_eq_true HPx.out.2.1)
          have HHd := Lib.hid HH.out.drew
          clear HH
          refine wp_region_held_drew (S := Heap w11 [.box pb [.slice p.dev.secs.A p.dev.secs.n p.dev.secs.c, .slice p.dev.waits.A p.dev.waits.n p.dev.waits.c, .int .i64 p.ub.txg, .int .i64 p.ub.first, .int .i64 p.ub.objs, .slice p.objs.A p.objs.n p.objs.c, .slice p.idx.A p.idx.n p.idx.c], It.look (fun W => Sto.At W lo hi p) lo hi (fun _ _ hr hh => hh.imp hr), .box ub [.slice u.dev.secs.A u.dev.secs.n u.dev.secs.c, .slice u.dev.waits.A u.dev.waits.n u.dev.waits.c, .int .i64 u.ub.txg, .int .i64 u.ub.first, .int .i64 u.ub.objs, .slice u.objs.A u.objs.n u.objs.c, .slice u.idx.A u.idx.n u.idx.c]]) (by kernel_rfl) HHd.out (fun hHeld => ?_)
          generalize World.drew wr = wd at *
          refine tS 0 ?_; (try simp only [Act.put, lyA, lyB, lyC])
          clear hHeld
          refine oS 1 (fun K hK => ?_)
          go_simp
          refine (num10_any _ _).mono ?_
          rintro e wN2 ⟨rfl, rfl⟩
          go_wp2_with fail
          refine hK.out _ _ HHd.out (fun hHeld => ?_)
          clear hK K
          (try simp only [Act.put, lyA, lyB, lyC])
          refine tS 2 ?_; (try simp only [Act.put, lyA, lyB, lyC])
          refine tS 3 ?_; (try simp only [Act.put, lyA, lyB, lyC])
          refine tG 4 rfl (fun wT hST => sh_run_load hST sizeSto (by kernel_rfl) rfl rfl 0 rfl (Nat.le_of_ble_eq_true rfl)) hHeld ?_; (try simp only [Act.put, lyA, lyB, lyC])
          refine tS 5 ?_; (try simp only [Act.put, lyA, lyB, lyC])
          clear hHeld
          refine oS 6 (fun K hK => ?_)
          go_simp
          refine (hst_any _ p gb (HPA.out _ HHd.out) (HGB9.out _ HHd.out.ext)).mono ?_
          rintro e w13 ⟨rfl, e13⟩
          rw [HB.out]
          have HH13 := Lib.hid (HHd.out.later e13)
          clear HHd e13
          go_wp2_with fail
          refine hK.out _ _ HH13.out (fun hHeld => ?_)
          clear hK K
          (try simp only [Act.put, lyA, lyB, lyC])
          refine tS 7 ?_; (try simp only [Act.put, lyA, lyB, lyC])
          refine tS 8 ?_; (try simp only [Act.put, lyA, lyB, lyC])
          refine tG 9 rfl (fun wT hST => sh_run_load hST sizeSto (by kernel_rfl) rfl rfl 0 rfl (Nat.le_of_ble_eq_true rfl)) hHeld ?_; (try simp only [Act.put, lyA, lyB, lyC])
          refine tG 11 rfl (fun wT hST => sh_run_load hST sizeSto (by kernel_rfl) rfl rfl 2 rfl (Nat.le_of_ble_eq_true rfl)) hHeld ?_; (try simp only [Act.put, lyA, lyB, lyC])
          clear hHeld
          refine oS 10 (fun K hK => ?_)
          go_simp
          refine (sused_any _ p (HPA.out _ HH13.out) (by rw [HPx.out.2.2]; exact HUs.out)).mono ?_
          rintro e w14 ⟨rfl, e14⟩
          rw [HPx.out.2.2]
          have HH14 := Lib.hid (HH13.out.later e14)
          clear HH13 e14
          go_wp2_with fail
          refine hK.out _ _ HH14.out (fun hHeld => ?_)
          clear hK K
          (try simp only [Act.put, lyA, lyB, lyC])
          clear hHeld
          refine oS 12 (fun K hK => ?_)
          go_simp
          refine (sused_any _ u (HU9.out _ HH14.out.ext) HUs.out).mono ?_
          rintro e w15 ⟨rfl, e15⟩
          have HH15 := Lib.hid (HH14.out.later e15)
          clear HH14 e15
          generalize (usedL u).length = un at *
          go_wp2_with fail
          refine hK.out _ _ HH15.out (fun hHeld => ?_)
          clear hK K
          (try simp only [Act.put, lyA, lyB, lyC])
          refine tS 13 ?_; (try simp only [Act.put, lyA, lyB, lyC])
          refine tS 14 ?_; (try simp only [Act.put, lyA, lyB, lyC])
          refine tS 15 ?_; (try simp only [Act.put, lyA, lyB, lyC])
          refine wpAnyH_done (by kernel_rfl) ?_ _
          clear hHeld
          go_wp2_with fail
          go_ret
          exact ⟨by simp, HEw4.out.trans HH15.out.ext⟩
end Go.Proofs.YtfongpdeflfioaaGreat
