/- The texts Words, Fwords, Feed, Sumo in one file. -/
import Derived.Test.YtfongpdeflfioaaGreatS4
import Derived.Test.YtfongpdeflfioaaGreatS2
import Derived.Deep.Cut
import Derived.Laws.IdiomCopy
import Derived.Test.YtfongpdeflfioaaGreatS9
/- Words of octets: the plain law; the reference's Words. -/
namespace Go.Proofs.YtfongpdeflfioaaGreat
open Go.RowKit
set_option linter.unusedVariables false
set_option linter.unusedSimpArgs false
def oc (l : List UInt8) (j : Nat) : Int := ((l[j]?.map UInt8.toNat).getD 0 : Nat)
theorem oc_at (l : List UInt8) (j : Nat) (h : j < l.length) : oc l j = (l[j].toNat : Int) := by simp [oc, h]
theorem oc_out (l : List UInt8) (j : Nat) (h : l.length ≤ j) : oc l j = 0 := by simp [oc, h]
theorem oc_bd (l : List UInt8) (j : Nat) : 0 ≤ oc l j ∧ oc l j ≤ 255 := by
  rcases Nat.lt_or_ge j l.length with h | h
  · rw [oc_at l j h]
    have := l[j].toNat_lt
    omega
  · rw [oc_out l j h]; omega
def part (l : List UInt8) (i : Nat) : Nat → Int
  | 0 => 0
  | m + 1 => part l i m * 256 + oc l (i + m)
theorem part_bd (l : List UInt8) (i : Nat) : ∀ m, 0 ≤ part l i m ∧ part l i m < 256 ^ m
  | 0 => by simp [part]
  | m + 1 => by
    have := part_bd l i m
    have := oc_bd l (i + m)
    rw [part, Int.pow_succ]
    omega
def word (l : List UInt8) (i : Nat) : Int := part l i 4
theorem word_bd (l : List UInt8) (i : Nat) : 0 ≤ word l i ∧ word l i ≤ 4294967295 := by
  have := part_bd l i 4
  rw [word]
  omega
def words (l : List UInt8) : List Int := (List.range ((l.length + 3) / 4)).map fun k => word l (4 * k)
def wordsUpto (l : List UInt8) (k : Nat) : List Int := (List.range k).map fun k => word l (4 * k)
theorem words_upto (l : List UInt8) (k : Nat) : wordsUpto l (k + 1) = wordsUpto l k ++ [word l (4 * k)] := by simp [wordsUpto, List.range_succ]
def u32s (xs : List Int) : List Value := xs.map fun x => .int .u32 x
theorem u32s_append (a b : List Int) : u32s (a ++ b) = u32s a ++ u32s b := by simp [u32s]
theorem u32s_length (a : List Int) : (u32s a).length = a.length := by simp [u32s]
theorem words_length (l : List UInt8) : (words l).length = (l.length + 3) / 4 := by simp [words]
theorem words_bd (l : List UInt8) : ∀ x ∈ words l, 0 ≤ x ∧ x ≤ 4294967295 := by
  intro x hx
  simp only [words, List.mem_map] at hx
  obtain ⟨k, _, rfl⟩ := hx
  exact word_bd l _
theorem infoU : (Tryz.prog.info? 186).map (fun i => (i.zero, i.size, i.bytes)) = some (some (.int .u32 0), 1, 4) := by kernel_rfl
set_option maxRecDepth 100000 in
set_option maxHeartbeats 2000000 in
theorem rwords_any (w : World) (A : Option Addr) (n c : Nat) (l : List UInt8) (hn : n = l.length) (hr : Rd w 0 w.heap.size A (bytes l)) (hN : n ≤ 100000000000) :
    Calls Tryz.prog 135 #[.slice A n c] w fun e w' => ∃ v, e = .returned v ∧ w'.ownsRow w.heap.size 186 1 v (words l).length (u32s (words l)) ∧ Ext w w' := by
  obtain ⟨i0, hi0, hz0, hz1, hz2⟩ := info_parts infoU
  have Hn := Lib.hid hn
  have HR := Lib.hid hr
  clear hn hr
  go_enter Tryz.func135, Tryz.ntmps135
  go_wp2_with fail
  go_loopw [3, 4] (fun v i wr => ∃ k : Nat, 4 * k ≤ n + 3 ∧ i = .int .i64 (4 * (k : Int)) ∧ Hid (wr.ownsRow w.heap.size 186 1 v k (u32s (wordsUpto l k))) ∧ Ext w wr) (fun _ i _ => (n + 4 - (intOf i).toNat))
  case atStart => exact ⟨0, by omega, rfl, Lib.hid (World.ownsRow_nil _ _ _ _), Ext.refl _⟩
  case round =>
    obtain ⟨k, hk, rfl, hown, e1⟩ := hrel
    by_cases hlt : 4 * k < n
    · go_wp2_with fail
      go_loop [5, 6] (fun x j => ∃ m : Nat, m ≤ 4 ∧ j = .int .i64 (4 * (k : Int) + m) ∧ x = .int .u32 (part l (4 * k) m)) (fun _ j => (4 * k + 4 - (intOf j).toNat))
      case atStart => exact ⟨0, by omega, by simp, rfl⟩
      case round =>
        obtain ⟨m, hm, rfl, rfl⟩ := hrel
        by_cases hm4 : m < 4
        · have hp := part_bd l (4 * k) m
          have hp2 : part l (4 * k) m < 16777216 := by
            have h3 : (256 : Int) ^ m ≤ 256 ^ 3 := by
              rcases (show m = 0 ∨ m = 1 ∨ m = 2 ∨ m = 3 by omega) with rfl | rfl | rfl | rfl <;> decide
            have : (256 : Int) ^ 3 = 16777216 := by decide
            omega
          have HP := Lib.hid (show part l (4 * k) (m + 1) = part l (4 * k) m * 256 + oc l (4 * k + m) from rfl)
          have hp0 := hp.1
          clear hp
          by_cases hb : 4 * k + m < n
          · have hbl : 4 * k + m < l.length := by rw [← Hn.out]; exact hb
            obtain ⟨b1, o1, rfl, _, _, f0⟩ := rd_byte (HR.out.ext e1 (Nat.le_refl _)) hbl
            have HO := Lib.hid (oc_at l _ hbl)
            have h255 := l[4 * k + m].toNat_lt
            generalize l[4 * k + m].toNat = y at *
            generalize part l (4 * k) m = q at *
            go_wp2_with fail
            go_round
            case rel => exact ⟨m + 1, by omega, by go_num, by rw [HP.out, HO.out]⟩
            case measure => simp [intOf]; omega
          · have HO := Lib.hid (oc_out l (4 * k + m) (by rw [← Hn.out]; omega))
            generalize part l (4 * k) m = q at *
            go_wp2_with fail
            go_round
            case rel => exact ⟨m + 1, by omega, by go_num, by rw [HP.out, HO.out, Int.add_zero]⟩
            case measure => simp [intOf]; omega
        · obtain rfl : m = 4 := by omega
          have hwd := word_bd l (4 * k)
          have HWd := Lib.hid (show part l (4 * k) 4 = word l (4 * k) from rfl)
          rw [HWd.out]
          have HUp := Lib.hid (words_upto l k)
          generalize word l (4 * k) = q at *
          obtain ⟨h0, h1⟩ := hwd
          have HOwn := Lib.hid hown.out
          clear hown
          go_wp2_with
            (at_builtin
             refine list_app _ rfl (.tmp 33) (.tmp 35) _ rfl 186 i0 _ 1 4 Tryz.underlying200 hi0 hz0 hz1 hz2 rfl (by omega) w.heap.size _ k _ rfl (own_ext HOwn.out ((Ext.refl _).alloc _)) 0 _ _ 1 1 [.int .u32 q] rfl rfl
               ((rd_new _ _ _).m0) (by simp [Value.oneCell']) (by simp only [maxLen]; omega) (by omega) (by have := e1.size; simp; omega) ?_
             intro v2 w2 hown2 he2 _ _
             have e3 : Ext w w2 := he2 _ (e1.alloc _) (Nat.le_refl _)
             have HOwn2 := Lib.hid hown2
             clear he2 hown2)
          go_roundw
          case rel => exact ⟨k + 1, by omega, by go_num, Lib.hid (by rw [HUp.out, u32s_append]; exact HOwn2.out), e3⟩
          case measure => simp [intOf]; omega
    · have HL := Lib.hid (show (words l).length = k by rw [words_length, ← Hn.out]; omega)
      have HW := Lib.hid (show words l = wordsUpto l k by rw [words, wordsUpto, ← words_length, HL.out])
      go_wp2_with fail
      go_ret
      exact ⟨_, rfl, by rw [HL.out, HW.out]; exact hown.out, e1⟩
end Go.Proofs.YtfongpdeflfioaaGreat
/- fletch.Words: the walk. -/
namespace Go.Proofs.YtfongpdeflfioaaGreat
open Go.RowKit
set_option linter.unusedVariables false
set_option linter.unusedSimpArgs false
theorem word_eq (l : List UInt8) (i : Nat) : word l i = oc l i * 16777216 + oc l (i + 1) * 65536 + oc l (i + 2) * 256 + oc l (i + 3) := by
  simp only [word, part, Nat.add_zero]
  omega
def four (l : List UInt8) (i : Nat) : List Value := [.int .u8 (oc l i), .int .u8 (oc l (i + 1)), .int .u8 (oc l (i + 2)), .int .u8 (oc l (i + 3))]
theorem four_at (l : List UInt8) (i : Nat) (h : i < l.length) :
    bytes ((l.drop i).take 4) ++ ([.int .u8 0, .int .u8 0, .int .u8 0, .int .u8 0] : List Value).drop (bytes ((l.drop i).take 4)).length = four l i := by
  rw [bytes_length, List.length_take, List.length_drop]
  obtain ⟨d, hd⟩ : ∃ d, l.drop i = d := ⟨_, rfl⟩
  have hdl : d.length = l.length - i := by rw [← hd, List.length_drop]
  have hg : ∀ j, d[j]? = l[i + j]? := fun j => by rw [← hd, List.getElem?_drop]
  have ho : ∀ j, oc l (i + j) = ((d[j]?.map UInt8.toNat).getD 0 : Nat) := fun j => by rw [oc, hg]
  have h0 := ho 0
  rw [Nat.add_zero] at h0
  rw [hd, four, h0, ho 1, ho 2, ho 3, show l.length - i = d.length from hdl.symm]
  match d with
  | [] => simp at hdl; omega
  | [a] => rfl
  | [a, b] => rfl
  | [a, b, c] => rfl
  | a :: b :: c :: e :: r =>
    have : min 4 (a :: b :: c :: e :: r).length = 4 := by simp
    rw [this]
    rfl
theorem or_i (m : Nat) (a b M : Int) (hM : M = 2 ^ m) (ha : 0 ≤ a) (hb : 0 ≤ b) (hb2 : b < M) (h : a * M + b < 4294967296) : bits BinOp.or IntKind.u32 (a * M) b = a * M + b := by
  obtain ⟨a, rfl⟩ := Int.eq_ofNat_of_zero_le ha
  obtain ⟨b, rfl⟩ := Int.eq_ofNat_of_zero_le hb
  have hM' : M = ((2 ^ m : Nat) : Int) := by rw [hM, Int.natCast_pow]; rfl
  subst hM'
  have hb3 : b < 2 ^ m := by omega
  have h4 : a * 2 ^ m + b < 4294967296 := by rw [← Int.natCast_mul] at h; omega
  have h1 : (BitVec.ofInt 32 (((a * 2 ^ m : Nat) : Int))).toNat = a * 2 ^ m := by
    rw [BitVec.ofInt_natCast, BitVec.toNat_ofNat]; exact Nat.mod_eq_of_lt (by omega)
  have h2 : (BitVec.ofInt 32 (b : Int)).toNat = b := by
    rw [BitVec.ofInt_natCast, BitVec.toNat_ofNat]; exact Nat.mod_eq_of_lt (by omega)
  have h5 : a * 2 ^ m ||| b = a * 2 ^ m + b := by
    rw [Nat.mul_comm]; exact (Nat.two_pow_add_eq_or_of_lt hb3 a).symm
  show IntKind.u32.wrap ((BitVec.ofInt 32 ((a : Int) * ((2 ^ m : Nat) : Int)) ||| BitVec.ofInt 32 (b : Int)).toNat : Int) = _
  rw [show (a : Int) * ((2 ^ m : Nat) : Int) = ((a * 2 ^ m : Nat) : Int) by rw [Int.natCast_mul], BitVec.toNat_or, h1, h2, h5]
  rw [IntKind.wrap_u32, Int.emod_eq_of_lt (by omega) (by omega), Int.natCast_add]
theorem wp_copy_runI' {P : Program} (w : World) {o : Oper} {a : Act} {K : Act → World → Prop} {Q : Exit → Act → World → Prop} (d s : Operand) (t t' : TypeId)
    (ho : o.op = .call { callee := .builtin .copy, args := #[d, s], argTypes := #[t, t'] }) (v u : Value) (hd : a.eval d = v) (hs : a.eval s = u) {v' : Value} {w' : World}
    (hr : (Builtin.copy_ #[t, t'] o.type #[v, u]).run P w = .ok v' w') (h : K (a.put o.dst v') w') : o.wp P a w K Q := by
  unfold Oper.wp execOp
  simp only [ho, resolve, invoke, builtin, Sem.run_bind, Sem.run_pure, Result.andThen_ok, List.map_toArray, List.map_cons, List.map_nil, hd, hs, hr]
  exact h
set_option maxRecDepth 100000 in
set_option maxHeartbeats 4000000 in
theorem fwords_any (w : World) (A : Option Addr) (n c : Nat) (l : List UInt8) (hn : n = l.length) (hr : Rd w 0 w.heap.size A (bytes l)) (hnc : n ≤ c) (hN : n ≤ 100000000000) :
    Calls Tryz.prog 146 #[.slice A n c] w fun e w' => ∃ v, e = .returned v ∧ w'.ownsRow w.heap.size 186 1 v (words l).length (u32s (words l)) ∧ Ext w w' := by
  obtain ⟨i0, hi0, hz0, hz1, hz2⟩ := info_parts infoU
  obtain ⟨i5, hi5, _, hy1, _⟩ := info_parts info5
  have hsz : (Tryz.prog.info? 5).map (·.size) = some 1 := by rw [hi5]; simp [hy1]
  have Hn := Lib.hid hn
  have HR := Lib.hid hr
  have hdv : (((n : Int) + 4 - 1) / 4) = (((n + 3) / 4 : Nat) : Int) := by omega
  clear hn hr
  go_enter Tryz.func146, Tryz.ntmps146
  go_wp2_with (refine wpList_make_own _ rfl (.const (.int .i64 0)) (.tmp 10) _ rfl w.heap.size 186 i0 _ 1 Tryz.underlying200 hi0 hz0 hz1 .i64 .i64 _ ((n + 3) / 4) rfl rfl (by first | exact hdv | omega) (by rw [hz2]; omega) (by simp only [maxLen]; omega) (Nat.le_refl _) ?_; intro w2 hown2 hg2)
  have e2 : Ext w w2 := ext_grown (Ext.refl w) (World.ownsRow_nil w w.heap.size 186 1) (show w.grownBy w2 (Value.slice none 0 0).ownBlock from hg2) (Nat.le_refl _)
  have HOwn0 := Lib.hid hown2
  clear hown2 hg2 hdv
  go_wp2_with fail
  go_loopw [3, 4] (fun v i wr => ∃ k : Nat, 4 * k ≤ n + 3 ∧ i = .int .i64 (4 * (k : Int)) ∧ Hid (wr.ownsRow w.heap.size 186 1 v k (u32s (wordsUpto l k))) ∧ Ext w wr) (fun _ i _ => (n + 4 - (intOf i).toNat))
  case atStart => exact ⟨0, by omega, rfl, HOwn0, e2⟩
  case round =>
    clear HOwn0 e2
    obtain ⟨k, hk, rfl, hown, e1⟩ := hrel
    by_cases hlt : 4 * k < n
    · go_wp2_with fail
      generalize hw1 : World.alloc wr _ = w1
      have HBx := Lib.hid (Bx.new hw1)
      have ew1 : Ext wr w1 := by rw [← hw1]; exact (Ext.refl wr).alloc _
      have hzs : w1.heap.size = wr.heap.size + 1 := by rw [← hw1]; simp
      have HZ := Lib.hid hzs
      clear hw1 hzs
      have hcp : ∀ ty, (Builtin.copy_ #[33, 33] ty #[.slice (some ⟨wr.heap.size, 0, none⟩) 4 4, .slice (shiftA A c (4 * k) 1) (n - 4 * k) (c - 4 * k)]).run Tryz.prog w1.drew = .ok (goInt ((Nat.min (n - 4 * k) 4 : Nat) : Int)) (w1.drew.setCells wr.heap.size 0 (bytes ((l.drop (4 * k)).take 4))) := fun ty => by
        have hrd : Rd w1 0 w1.heap.size (shiftA A c (4 * k) 1) (bytes (l.drop (4 * k))) := by
          have := ((HR.out.at (e1.trans ew1) (Nat.le_refl _)).from_ (n := n) (c := c) (k := 4 * k) (size := 1) (by rw [bytes_length, Nat.mul_one]; exact Hn.out.symm) (by omega) hnc)
          rwa [Nat.mul_one, bytes_drop] at this
        obtain ⟨b, o, he, _, _, hcs⟩ := hrd (fun e => by have := bytes_length (l.drop (4 * k)); rw [e] at this; simp at this; have := Hn.out; omega)
        rw [he]
        have hlen : (bytes ((l.drop (4 * k)).take 4)).length = Nat.min (n - 4 * k) 4 := by rw [bytes_length, List.length_take, List.length_drop, ← Hn.out]; exact Nat.min_comm _ _
        have h4 : Nat.min (n - 4 * k) 4 ≤ 4 := Nat.min_le_right _ _
        have := run_copy_cells (P := Tryz.prog) w1.drew 33 33 ty 5 wr.heap.size 0 4 4 ⟨b, o, none⟩ (n - 4 * k) (c - 4 * k) (bytes ((l.drop (4 * k)).take 4)) Tryz.underlying33 hsz hlen
          (fun j v hj => by
            rw [add_lit]
            refine hcs j v ?_
            rw [← bytes_take, List.getElem?_take] at hj
            split at hj
            · exact hj
            · cases hj)
          (fun j hj => by
            have hj' : j < 4 := by rw [hlen] at hj; omega
            rw [Nat.zero_add]
            show (w1.cell? _).isSome = true
            rw [HBx.out.cell j _ (List.getElem?_eq_getElem (by simpa using hj'))]; rfl)
          (fun j hj => by
            have hj' : j < 4 := by rw [hlen] at hj; omega
            rw [Nat.zero_add]
            exact HBx.out.frozen j _ (List.getElem?_eq_getElem (by simpa using hj')))
          (fun v hv => bytes_one _ v hv)
        rw [hlen] at this
        exact this
      obtain ⟨w3, hw3⟩ : ∃ w3, w3 = w1.drew.setCells wr.heap.size 0 (bytes ((l.drop (4 * k)).take 4)) := ⟨_, rfl⟩
      have hb3 : Bx w3 wr.heap.size (four l (4 * k)) := by
        have h1 := bx_sets (bytes ((l.drop (4 * k)).take 4)) 0 _ w1.drew (HBx.out.ext ((Ext.refl w1).drew)) (by
          rw [bytes_length, List.length_take]
          have : ([.int .u8 0, .int .u8 0, .int .u8 0, .int .u8 0] : List Value).length = 4 := rfl
          show 0 + min 4 _ ≤ ([.int .u8 0, .int .u8 0, .int .u8 0, .int .u8 0] : List Value).length
          omega)
        rw [← hw3] at h1
        have h2 := four_at l (4 * k) (by rw [← Hn.out]; exact hlt)
        rw [List.take_zero, List.nil_append, Nat.zero_add] at h1
        exact h2 ▸ h1
      have e3 : Ext wr w3 := by
        rw [hw3]
        exact below_setCells wr.heap.size _ _ _ ew1.drew (Nat.le_refl _)
      have g0 := hb3.cell 0 _ rfl
      have g1 := hb3.cell 1 _ rfl
      have g2 := hb3.cell 2 _ rfl
      have g3 := hb3.cell 3 _ rfl
      rw [← hw3] at hcp
      have HC := Lib.hid hcp
      have hsl : ∀ W, (Instr.slice 33 (.slice A n c) (some (.int .i64 (4 * (k : Int)))) none none).run Tryz.prog W = .ok (.slice (shiftA A c (4 * k) 1) (n - 4 * k) (c - 4 * k)) W := fun W => run_slice_from (P := Tryz.prog) W 33 5 i5 1 Tryz.underlying33 hi5 hy1 A n c (4 * k) _ (by omega) (by omega)
      have hb0 := oc_bd l (4 * k)
      have hb1 := oc_bd l (4 * k + 1)
      have hb2 := oc_bd l (4 * k + 2)
      have hb3' := oc_bd l (4 * k + 3)
      have HWd := Lib.hid (word_eq l (4 * k))
      have HUp := Lib.hid (words_upto l k)
      clear hcp hb3 hw3
      generalize oc l (4 * k) = q0 at *
      generalize oc l (4 * k + 1) = q1 at *
      generalize oc l (4 * k + 2) = q2 at *
      generalize oc l (4 * k + 3) = q3 at *
      refine rgnE (S := fun w' => w' = w1.drew) (by kernel_rfl) ?_ (fun hHeld => ?_)
      case refine_1 => rfl
      refine eS 0 ?_; (try simp only [Act.put, lyA, lyB, lyC])
      refine eS 1 ?_; (try simp only [Act.put, lyA, lyB, lyC])
      refine eS 2 ?_; (try simp only [Act.put, lyA, lyB, lyC])
      refine eS 3 ?_; (try simp only [Act.put, lyA, lyB, lyC])
      refine lastE 4 rfl (by kernel_rfl) (by kernel_rfl) (by kernel_rfl) (by kernel_rfl) (fun K hK => ?_)
      refine wp_copy_runI' _ (.tmp 18) (.tmp 21) 33 33 rfl (.slice (some ⟨wr.heap.size, 0, none⟩) 4 4) (.slice (shiftA A c (4 * k) 1) (n - 4 * k) (c - 4 * k)) rfl rfl (HC.out _) ?_
      refine hK.out _ _ ?_; clear hK K; (try simp only [Act.put, lyA, lyB, lyC])
      have hq : word l (4 * k) = bits BinOp.or IntKind.u32 (bits BinOp.or IntKind.u32 (bits BinOp.or IntKind.u32 (q0 * 16777216) (q1 * 65536)) (q2 * 256)) q3 := by
        rw [HWd.out, or_i 24 q0 (q1 * 65536) 16777216 rfl (by omega) (by omega) (by omega) (by omega), show q0 * 16777216 + q1 * 65536 = (q0 * 256 + q1) * 65536 by omega,
          or_i 16 (q0 * 256 + q1) (q2 * 256) 65536 rfl (by omega) (by omega) (by omega) (by omega), show (q0 * 256 + q1) * 65536 + q2 * 256 = (q0 * 65536 + q1 * 256 + q2) * 256 by omega,
          or_i 8 (q0 * 65536 + q1 * 256 + q2) q3 256 rfl (by omega) (by omega) (by omega) (by omega)]
        first | done | omega
      have HQ := Lib.hid hq
      clear hq
      go_wp2_with
        (at_builtin
         refine list_app _ rfl (.tmp 23) (.tmp 42) _ rfl 186 i0 _ 1 4 Tryz.underlying200 hi0 hz0 hz1 hz2 rfl (by omega) w.heap.size _ k _ rfl (own_ext hown.out (e3.alloc _)) 0 _ _ 1 1 [.int .u32 (bits BinOp.or IntKind.u32 (bits BinOp.or IntKind.u32 (bits BinOp.or IntKind.u32 (q0 * 16777216) (q1 * 65536)) (q2 * 256)) q3)] rfl rfl
           ((rd_new _ _ _).m0) (by simp [Value.oneCell']) (by simp only [maxLen]; omega) (by omega) (by have := e1.size; have := e3.size; simp; omega) ?_
         intro v5 w5 hown5 he5 _ _
         have e5 : Ext w w5 := he5 _ ((e1.trans e3).alloc _) (Nat.le_refl _)
         have HOwn5 := Lib.hid hown5
         clear he5 hown5)
      go_roundw
      case rel => exact ⟨k + 1, by omega, by go_num, Lib.hid (by rw [HUp.out, u32s_append, HQ.out]; exact HOwn5.out), e5⟩
      case measure => simp [intOf]; omega
    · have HL := Lib.hid (show (words l).length = k by rw [words_length, ← Hn.out]; omega)
      have HW := Lib.hid (show words l = wordsUpto l k by rw [words, wordsUpto, ← words_length, HL.out])
      go_wp2_with fail
      go_ret
      exact ⟨_, rfl, by rw [HL.out, HW.out]; exact hown.out, e1⟩
end Go.Proofs.YtfongpdeflfioaaGreat
/- Feed of both: a running sum behind octets. -/
namespace Go.Proofs.YtfongpdeflfioaaGreat
open Go.RowKit
set_option linter.unusedVariables false
set_option linter.unusedSimpArgs false
structure Su where
  a : Int
  b : Int
  c : Int
  d : Int
def Su.cells (s : Su) : List Value := [.int .u64 s.a, .int .u64 s.b, .int .u64 s.c, .int .u64 s.d]
def Su.zero : Su := ⟨0, 0, 0, 0⟩
def stp (s : Su) (x : Int) : Su := ⟨IntKind.u64.wrap (s.a + x), IntKind.u64.wrap (s.b + IntKind.u64.wrap (s.a + x)), IntKind.u64.wrap (s.c + IntKind.u64.wrap (s.b + IntKind.u64.wrap (s.a + x))),
  IntKind.u64.wrap (s.d + IntKind.u64.wrap (s.c + IntKind.u64.wrap (s.b + IntKind.u64.wrap (s.a + x))))⟩
def feed (s : Su) (l : List UInt8) : Su := (words l).foldl stp s
def feedUpto (s : Su) (l : List UInt8) (k : Nat) : Su := ((words l).take k).foldl stp s
theorem feedUpto_succ (s : Su) (l : List UInt8) (k : Nat) (h : k < (words l).length) : feedUpto s l (k + 1) = stp (feedUpto s l k) (words l)[k] := by
  rw [feedUpto, feedUpto, List.take_succ_eq_append_getElem h, List.foldl_append]; rfl
theorem feedUpto_all (s : Su) (l : List UInt8) (k : Nat) (h : k = (words l).length) : feedUpto s l k = feed s l := by
  rw [feedUpto, feed, h, List.take_length]
theorem rd_u32 {w : World} {lo h : Nat} {A : Option Addr} {l : List Int} (hr : Rd w lo h A (u32s l)) {k : Nat} (hk : k < l.length) :
    ∃ b o, A = some ⟨b, o, none⟩ ∧ lo ≤ b ∧ b < h ∧ w.cell? ⟨b, o + k, none⟩ = some (.int .u32 l[k]) := by
  obtain ⟨b, o, h1, h2, h3, h4⟩ := hr (fun e => by have := u32s_length l; rw [e] at this; simp at this; omega)
  exact ⟨b, o, h1, h2, h3, h4 k _ (by simp [u32s, List.getElem?_eq_getElem hk])⟩
theorem sizeSu : (Tryz.prog.info? 166).map (·.size) = some 4 := by kernel_rfl
set_option maxRecDepth 100000 in
set_option maxHeartbeats 4000000 in
theorem ffeed_any (w : World) (s : Su) (A : Option Addr) (n c : Nat) (l : List UInt8) (hn : n = l.length) (hr : Rd w 0 w.heap.size A (bytes l)) (hnc : n ≤ c) (hN : n ≤ 100000000000) :
    Calls Tryz.prog 131 #[.agg s.cells.toArray, .slice A n c] w fun e w' => e = .returned (.agg (feed s l).cells.toArray) ∧ Ext w w' := by
  have Hn := Lib.hid hn
  have HR := Lib.hid hr
  have HB := Lib.hid (words_bd l)
  have HN := Lib.hid (words_length l)
  obtain ⟨sa, sb, sc, sd⟩ := s
  have HF0 := Lib.hid (show feedUpto ⟨sa, sb, sc, sd⟩ l 0 = ⟨sa, sb, sc, sd⟩ from rfl)
  clear hn hr
  simp only [Su.cells]
  go_enter Tryz.func131, Tryz.ntmps131
  go_wp2_with fail
  generalize hwH : World.alloc (World.alloc w _) _ = w2; have HH := Lib.hid (Heap.two hwH); clear hwH
  refine (fwords_any w2 A n c l Hn.out (HR.out.at HH.out.ext (Nat.le_refl _)) hnc hN).mono ?_
  rintro e w3 ⟨v3, rfl, hown, e3⟩
  obtain ⟨A3, c3, rfl, k1, k2, _⟩ := own_form hown
  have HH3 := Lib.hid ((HH.out.addRd e3 (Rd.of_own hown) (Nat.le_refl _)))
  clear HH hown e3
  have hml : (words l).length ≤ 100000000000 := by have := HN.out; have := Hn.out; omega
  obtain ⟨m, hm⟩ : ∃ m, m = (words l).length := ⟨_, rfl⟩
  rw [← hm] at hml ⊢
  have HM := Lib.hid hm
  clear hm k1 k2
  go_wp2_with fail
  go_loopw [10] (fun i wr => ∃ k : Nat, k ≤ m ∧ i = .int .i64 (k : Int) ∧ Hid (Heap w [.rd A3 (u32s (words l)), .box (w.heap.size + 1) [.int .u64 0, .int .u64 0, .int .u64 0, .int .u64 0], .box w.heap.size (feedUpto ⟨sa, sb, sc, sd⟩ l k).cells] wr)) (fun i _ => m - (intOf i).toNat)
  case atStart => exact ⟨0, Nat.zero_le _, rfl, HH3⟩
  case round =>
    clear HH3
    obtain ⟨k, hk, rfl, HH⟩ := hrel
    by_cases hlt : k < m
    · have hkl : k < (words l).length := by rw [← HM.out]; exact hlt
      obtain ⟨b1, o1, rfl, _, _, f0⟩ := rd_u32 (HH.out.rdAt 0 rfl) hkl
      have HSt := Lib.hid (feedUpto_succ ⟨sa, sb, sc, sd⟩ l k hkl)
      have hbd := HB.out _ (List.getElem_mem hkl)
      generalize (words l)[k] = y at *
      obtain ⟨hb0, hb1⟩ := hbd
      generalize feedUpto ⟨sa, sb, sc, sd⟩ l k = q at *
      obtain ⟨qa, qb, qc, qd⟩ := q
      go_wp2_with (first | (refine shl_load1 HH.out rfl rfl rfl 2 rfl rfl (by decide +kernel) ?_) | (refine shl_store1 HH.out rfl rfl rfl rfl 2 rfl rfl rfl (by kernel_rfl) ?_; clear HH; intro wS HHS; have HH := Lib.hid HHS; clear HHS))
      go_roundw
      case rel => exact ⟨k + 1, by omega, by go_num, Lib.hid (by rw [HSt.out]; exact HH.out)⟩
      case measure => simp [intOf]; omega
    · have HFi := Lib.hid (feedUpto_all ⟨sa, sb, sc, sd⟩ l k (by rw [← HM.out]; omega))
      go_wp2_with (first | (refine shl_load HH.out sizeSu (by kernel_rfl) rfl rfl rfl 2 rfl rfl ?_) | (refine shl_store HH.out sizeSu rfl rfl rfl rfl 1 rfl rfl rfl rfl ?_; clear HH; intro wS HHS; have HH := Lib.hid HHS; clear HHS))
      refine ret_cell sizeSu (by kernel_rfl) HH.out rfl rfl 1 rfl rfl rfl ⟨?_, HH.out.ext⟩
      rw [HFi.out]
      rfl
set_option maxRecDepth 100000 in
set_option maxHeartbeats 4000000 in
theorem rfeed_any (w : World) (s : Su) (A : Option Addr) (n c : Nat) (l : List UInt8) (hn : n = l.length) (hr : Rd w 0 w.heap.size A (bytes l)) (hN : n ≤ 100000000000) :
    Calls Tryz.prog 109 #[.agg s.cells.toArray, .slice A n c] w fun e w' => e = .returned (.agg (feed s l).cells.toArray) ∧ Ext w w' := by
  have Hn := Lib.hid hn
  have HR := Lib.hid hr
  have HB := Lib.hid (words_bd l)
  have HN := Lib.hid (words_length l)
  obtain ⟨sa, sb, sc, sd⟩ := s
  have HF0 := Lib.hid (show feedUpto ⟨sa, sb, sc, sd⟩ l 0 = ⟨sa, sb, sc, sd⟩ from rfl)
  clear hn hr
  simp only [Su.cells]
  go_enter Tryz.func109, Tryz.ntmps109
  go_wp2_with fail
  generalize hwH : World.alloc (World.alloc w _) _ = w2; have HH := Lib.hid (Heap.two hwH); clear hwH
  refine (rwords_any w2 A n c l Hn.out (HR.out.at HH.out.ext (Nat.le_refl _)) hN).mono ?_
  rintro e w3 ⟨v3, rfl, hown, e3⟩
  obtain ⟨A3, c3, rfl, k1, k2, _⟩ := own_form hown
  have HH3 := Lib.hid ((HH.out.addRd e3 (Rd.of_own hown) (Nat.le_refl _)))
  clear HH hown e3
  have hml : (words l).length ≤ 100000000000 := by have := HN.out; have := Hn.out; omega
  obtain ⟨m, hm⟩ : ∃ m, m = (words l).length := ⟨_, rfl⟩
  rw [← hm] at hml ⊢
  have HM := Lib.hid hm
  clear hm k1 k2
  go_wp2_with fail
  go_loopw [6] (fun i wr => ∃ k : Nat, k ≤ m ∧ i = .int .i64 (k : Int) ∧ Hid (Heap w [.rd A3 (u32s (words l)), .box (w.heap.size + 1) [.int .u64 0, .int .u64 0, .int .u64 0, .int .u64 0], .box w.heap.size (feedUpto ⟨sa, sb, sc, sd⟩ l k).cells] wr)) (fun i _ => m - (intOf i).toNat)
  case atStart => exact ⟨0, Nat.zero_le _, rfl, HH3⟩
  case round =>
    clear HH3
    obtain ⟨k, hk, rfl, HH⟩ := hrel
    by_cases hlt : k < m
    · have hkl : k < (words l).length := by rw [← HM.out]; exact hlt
      obtain ⟨b1, o1, rfl, _, _, f0⟩ := rd_u32 (HH.out.rdAt 0 rfl) hkl
      have HSt := Lib.hid (feedUpto_succ ⟨sa, sb, sc, sd⟩ l k hkl)
      have hbd := HB.out _ (List.getElem_mem hkl)
      generalize (words l)[k] = y at *
      obtain ⟨hb0, hb1⟩ := hbd
      generalize feedUpto ⟨sa, sb, sc, sd⟩ l k = q at *
      obtain ⟨qa, qb, qc, qd⟩ := q
      go_wp2_with fail
      refine wp_region_held_drew (S := fun w' => w' = (wr).drew) (by kernel_rfl) rfl (fun hHeld => ?_)
      refine tS 0 ?_; (try simp only [Act.put, lyA, lyB, lyC])
      refine tG 1 rfl (fun wT hST => by rw [hST]; exact sh_run_load1 HH.out.drew rfl rfl 2 rfl rfl (by kernel_rfl)) (by assumption) ?_; (try simp only [Act.put, lyA, lyB, lyC])
      refine tS 2 ?_; (try simp only [Act.put, lyA, lyB, lyC])
      refine tS 3 ?_; (try simp only [Act.put, lyA, lyB, lyC])
      refine tS 4 ?_; (try simp only [Act.put, lyA, lyB, lyC])
      refine tS 5 ?_; (try simp only [Act.put, lyA, lyB, lyC])
      refine tS 6 ?_; (try simp only [Act.put, lyA, lyB, lyC])
      refine tS 7 ?_; (try simp only [Act.put, lyA, lyB, lyC])
      refine tS 8 ?_; (try simp only [Act.put, lyA, lyB, lyC])
      refine wpAnyH_done (by kernel_rfl) ?_ _
      have HH2 := Lib.hid HH.out.drew
      clear HH
      have HH := HH2
      clear HH2
      go_wp2_with (first | (refine shl_load1 HH.out rfl rfl rfl 2 rfl rfl (by decide +kernel) ?_) | (refine shl_load HH.out sizeSu (by kernel_rfl) rfl rfl rfl 2 rfl rfl ?_) | (refine shl_store HH.out sizeSu rfl rfl rfl rfl 2 rfl rfl rfl rfl ?_; clear HH; intro wS HHS; have HH := Lib.hid HHS; clear HHS))
      go_roundw
      case rel => exact ⟨k + 1, by omega, by go_num, Lib.hid (by rw [HSt.out]; exact HH.out)⟩
      case measure => simp [intOf]; omega
    · have HFi := Lib.hid (feedUpto_all ⟨sa, sb, sc, sd⟩ l k (by rw [← HM.out]; omega))
      go_wp2_with (first | (refine shl_load HH.out sizeSu (by kernel_rfl) rfl rfl rfl 2 rfl rfl ?_) | (refine shl_store HH.out sizeSu rfl rfl rfl rfl 1 rfl rfl rfl rfl ?_; clear HH; intro wS HHS; have HH := Lib.hid HHS; clear HHS))
      refine ret_cell sizeSu (by kernel_rfl) HH.out rfl rfl 1 rfl rfl rfl ⟨?_, HH.out.ext⟩
      rw [HFi.out]
      rfl
end Go.Proofs.YtfongpdeflfioaaGreat
/- A sum's octets: fletch.Octets, the reference's SumOctets. -/
namespace Go.Proofs.YtfongpdeflfioaaGreat
open Go.RowKit
set_option linter.unusedVariables false
set_option linter.unusedSimpArgs false
def sumO (s : Su) : List UInt8 := puts s.a 8 ++ puts s.b 8 ++ puts s.c 8 ++ puts s.d 8
theorem sumO_length (s : Su) : (sumO s).length = 32 := by simp [sumO, puts_length]
theorem bt_i64 (x : Int) (j : Nat) (hj : j < 8) : bt (IntKind.i64.wrap x) j = bt x j := by
  unfold bt
  congr 2
  rw [IntKind.wrap_i64]
  rcases (show j = 0 ∨ j = 1 ∨ j = 2 ∨ j = 3 ∨ j = 4 ∨ j = 5 ∨ j = 6 ∨ j = 7 by omega) with rfl | rfl | rfl | rfl | rfl | rfl | rfl | rfl <;> simp <;> omega
theorem puts_i64 (x : Int) : puts (IntKind.i64.wrap x) 8 = puts x 8 := by
  unfold puts
  refine List.map_congr_left fun j hj => ?_
  rw [List.mem_range] at hj
  exact bt_i64 x _ (by omega)
theorem puts_take' (x : Int) (m k : Nat) (hk : k < m) : (puts x m).take (k + 1) = (puts x m).take k ++ [bt x (m - 1 - k)] := by
  rw [List.take_succ_eq_append_getElem (by rw [puts_length]; exact hk)]
  simp [puts]
set_option maxRecDepth 100000 in
set_option maxHeartbeats 1000000 in
theorem eight_any (x : Int) (w : World) (hx1 : 0 ≤ x) (hx2 : x ≤ 18446744073709551615) :
    Calls Tryz.prog 134 #[.int .u64 x] w fun e w' => ∃ v, e = .returned v ∧ w'.ownsRow w.heap.size 5 1 v 8 (bytes (puts x 8)) ∧ Ext w w' := by
  obtain ⟨i0, hi0, hz0, hz1, hz2⟩ := info_parts info5
  have HX := Lib.hid hx2
  clear hx2
  go_enter Tryz.func134, Tryz.ntmps134
  go_wp2_with fail
  go_loopw [3, 4] (fun v i wr => ∃ k : Nat, k ≤ 8 ∧ i = .int .i64 (7 - (k : Int)) ∧ Hid (wr.ownsRow w.heap.size 5 1 v k (bytes ((puts x 8).take k))) ∧ Ext w wr) (fun _ i _ => (intOf i + 1).toNat)
  case atStart => exact ⟨0, Nat.zero_le _, rfl, Lib.hid (World.ownsRow_nil _ _ _ _), Ext.refl _⟩
  case round =>
    obtain ⟨k, hk, rfl, hown, e1⟩ := hrel
    by_cases hlt : k < 8
    · have htx := Lib.hid (puts_take' x 8 k hlt)
      obtain ⟨j, hj⟩ : ∃ j : Nat, 8 - 1 - k = j := ⟨_, rfl⟩
      have hji : 7 - (k : Int) = j := by omega
      have hj8 : j < 8 := by omega
      rw [hj] at htx
      rw [hji]
      go_wp2_with
        (at_builtin
         refine list_app _ rfl (.tmp 9) (.tmp 15) _ rfl 5 i0 _ 1 1 Tryz.underlying33 hi0 hz0 hz1 hz2 rfl (by omega) w.heap.size _ k _ rfl (own_ext hown.out ((Ext.refl _).alloc _)) 0 _ _ 1 1 [.int .u8 (x / 2 ^ (8 * j) % 256)] rfl rfl
           ((rd_new _ _ _).m0) (by simp [Value.oneCell']) (by simp only [maxLen]; omega) (by omega) (by have := e1.size; simp; omega) ?_
         intro v2 w2 hown2 he2 _ _
         have e3 : Ext w w2 := he2 _ (e1.alloc _) (Nat.le_refl _)
         clear he2)
      go_roundw
      case rel =>
        refine ⟨k + 1, by omega, by go_num, ?_, e3⟩
        rw [htx.out, bytes_append]
        have hb : bytes [bt x j] = [.int .u8 (x / 2 ^ (8 * j) % 256)] := by
          have h1 : (256 : Int) ^ j = 2 ^ (8 * j) := by rw [Int.pow_mul]; rfl
          have h2 := bt_zero (x / 256 ^ j)
          have h3 : bt x j = bt (x / 256 ^ j) 0 := by simp [bt]
          rw [h3, bytes, List.map_cons, List.map_nil, h2, h1]
        rw [hb]
        exact Lib.hid hown2
      case measure => (first | (simp [intOf]; done) | (simp [intOf]; omega))
    · go_wp2_with fail
      obtain rfl : k = 8 := by omega
      go_ret
      exact ⟨_, rfl, by have := hown.out; rwa [List.take_of_length_le (by rw [puts_length]; exact Nat.le_refl _)] at this, e1⟩
def Su.wf (s : Su) : Prop := (0 ≤ s.a ∧ s.a ≤ 18446744073709551615) ∧ (0 ≤ s.b ∧ s.b ≤ 18446744073709551615) ∧ (0 ≤ s.c ∧ s.c ≤ 18446744073709551615) ∧ (0 ≤ s.d ∧ s.d ≤ 18446744073709551615)
set_option maxRecDepth 100000 in
set_option maxHeartbeats 4000000 in
theorem sumoctets_any (s : Su) (w : World) (hs : s.wf) :
    Calls Tryz.prog 108 #[.agg s.cells.toArray] w fun e w' => ∃ v, e = .returned v ∧ w'.ownsRow w.heap.size 5 1 v 32 (bytes (sumO s)) ∧ Ext w w' := by
  obtain ⟨i0, hi0, hz0, hz1, hz2⟩ := info_parts info5
  obtain ⟨sa, sb, sc, sd⟩ := s
  have HE := Lib.hid (show sumO ⟨sa, sb, sc, sd⟩ = puts sa 8 ++ puts sb 8 ++ puts sc 8 ++ puts sd 8 from rfl)
  have HS := Lib.hid hs
  clear hs
  simp only [Su.cells]
  go_enter Tryz.func108, Tryz.ntmps108
  go_wp2_with fail
  generalize hwH : World.alloc w _ = w1; have HH := Lib.hid (Heap.one hwH); clear hwH
  have HH0 := Lib.hid HH.out.drew
  clear HH
  have HH := HH0
  clear HH0
  refine wp_region_held_drew (S := Heap w [.box w.heap.size [.int .u64 sa, .int .u64 sb, .int .u64 sc, .int .u64 sd]]) (by kernel_rfl) HH.out (fun hHeld => ?_)
  refine tS 0 ?_; (try simp only [Act.put, lyA, lyB, lyC])
  refine tG 1 rfl (fun wT hST => sh_run_load1 hST rfl rfl 0 rfl rfl (by kernel_rfl)) hHeld ?_; (try simp only [Act.put, lyA, lyB, lyC])
  refine tS 3 ?_; (try simp only [Act.put, lyA, lyB, lyC])
  refine tG 4 rfl (fun wT hST => sh_run_load1 hST rfl rfl 0 rfl rfl (by kernel_rfl)) hHeld ?_; (try simp only [Act.put, lyA, lyB, lyC])
  refine tS 7 ?_; (try simp only [Act.put, lyA, lyB, lyC])
  refine tG 8 rfl (fun wT hST => sh_run_load1 hST rfl rfl 0 rfl rfl (by kernel_rfl)) hHeld ?_; (try simp only [Act.put, lyA, lyB, lyC])
  refine tS 11 ?_; (try simp only [Act.put, lyA, lyB, lyC])
  refine tG 12 rfl (fun wT hST => sh_run_load1 hST rfl rfl 0 rfl rfl (by kernel_rfl)) hHeld ?_; (try simp only [Act.put, lyA, lyB, lyC])
  clear hHeld
  refine oS 2 (fun K hK => ?_)
  go_simp
  refine (eight_any sa _ HS.out.1.1 HS.out.1.2).mono ?_
  rintro e w2 ⟨v2, rfl, hown2, e2⟩
  have HH2 := Lib.hid (HH.out.addRow e2 hown2)
  clear HH hown2 e2
  go_wp2_with fail
  refine hK.out _ _ HH2.out.tail (fun hHeld => ?_); clear hK K; (try simp only [Act.put, lyA, lyB, lyC])
  clear hHeld
  refine oS 5 (fun K hK => ?_)
  go_simp
  refine (eight_any sb _ HS.out.2.1.1 HS.out.2.1.2).mono ?_
  rintro e w3 ⟨v3, rfl, hown3, e3⟩
  obtain ⟨A3, c3, rfl, _, _, _⟩ := own_form hown3
  have HH3 := Lib.hid (HH2.out.addRow e3 hown3)
  clear HH2 hown3 e3
  go_wp2_with fail
  refine hK.out _ _ HH3.out.tail.tail (fun hHeld => ?_); clear hK K; (try simp only [Act.put, lyA, lyB, lyC])
  clear hHeld
  refine oS 6 (fun K hK => ?_)
  refine sh_app (.tmp 5) (.tmp 8) _ rfl Tryz.underlying33 hi0 hz0 hz1 hz2 rfl (by omega) HH3.out 1 rfl rfl (m := 8) rfl (by rw [bytes_length, puts_length]) (Rd.of_own (HH3.out.rowAt 0 rfl)) (bytes_one _) (by simp only [maxLen]; omega) (by omega) ?_
  rintro v4 w4 hh4 ⟨A4, c4, rfl⟩
  have HH4 := Lib.hid hh4
  clear hh4 HH3
  refine hK.out _ _ HH4.out.tail.tail (fun hHeld => ?_); clear hK K; (try simp only [Act.put, lyA, lyB, lyC])
  clear hHeld
  refine oS 9 (fun K hK => ?_)
  go_simp
  refine (eight_any sc _ HS.out.2.2.1.1 HS.out.2.2.1.2).mono ?_
  rintro e w5 ⟨v5, rfl, hown5, e5⟩
  obtain ⟨A5, c5, rfl, _, _, _⟩ := own_form hown5
  have HH5 := Lib.hid (HH4.out.addRow e5 hown5)
  clear HH4 hown5 e5
  go_wp2_with fail
  refine hK.out _ _ HH5.out.tail.tail.tail (fun hHeld => ?_); clear hK K; (try simp only [Act.put, lyA, lyB, lyC])
  clear hHeld
  refine oS 10 (fun K hK => ?_)
  refine sh_app (.tmp 9) (.tmp 12) _ rfl Tryz.underlying33 hi0 hz0 hz1 hz2 rfl (by omega) HH5.out 2 rfl rfl (m := 8) rfl (by rw [bytes_length, puts_length]) (Rd.of_own (HH5.out.rowAt 0 rfl)) (bytes_one _) (by simp only [maxLen]; omega) (by omega) ?_
  rintro v6 w6 hh6 ⟨A6, c6, rfl⟩
  have HH6 := Lib.hid hh6
  clear hh6 HH5
  refine hK.out _ _ HH6.out.tail.tail.tail (fun hHeld => ?_); clear hK K; (try simp only [Act.put, lyA, lyB, lyC])
  clear hHeld
  refine oS 13 (fun K hK => ?_)
  go_simp
  refine (eight_any sd _ HS.out.2.2.2.1 HS.out.2.2.2.2).mono ?_
  rintro e w7 ⟨v7, rfl, hown7, e7⟩
  obtain ⟨A7, c7, rfl, _, _, _⟩ := own_form hown7
  have HH7 := Lib.hid (HH6.out.addRow e7 hown7)
  clear HH6 hown7 e7
  go_wp2_with fail
  refine hK.out _ _ HH7.out.tail.tail.tail.tail (fun hHeld => ?_); clear hK K; (try simp only [Act.put, lyA, lyB, lyC])
  clear hHeld
  refine oS 14 (fun K hK => ?_)
  refine sh_app (.tmp 13) (.tmp 16) _ rfl Tryz.underlying33 hi0 hz0 hz1 hz2 rfl (by omega) HH7.out 3 rfl rfl (m := 8) rfl (by rw [bytes_length, puts_length]) (Rd.of_own (HH7.out.rowAt 0 rfl)) (bytes_one _) (by simp only [maxLen]; omega) (by omega) ?_
  rintro v8 w8 hh8 ⟨A8, c8, rfl⟩
  have HH8 := Lib.hid hh8
  clear hh8 HH7
  refine hK.out _ _ HH8.out.tail.tail.tail.tail (fun hHeld => ?_); clear hK K; (try simp only [Act.put, lyA, lyB, lyC])
  refine tS 15 ?_; (try simp only [Act.put, lyA, lyB, lyC])
  refine wpAnyH_done (by kernel_rfl) ?_ _
  go_wp2_with fail
  go_ret
  refine ⟨_, rfl, ?_, HH8.out.ext⟩
  have := HH8.out.rowAt 3 rfl
  rw [HE.out, bytes_append, bytes_append, bytes_append]
  exact this
set_option maxRecDepth 100000 in
set_option maxHeartbeats 4000000 in
theorem octets_any (s : Su) (w : World) (hs : s.wf) :
    Calls Tryz.prog 100 #[.agg s.cells.toArray] w fun e w' => ∃ v, e = .returned v ∧ w'.ownsRow w.heap.size 5 1 v 32 (bytes (sumO s)) ∧ Ext w w' := by
  obtain ⟨sa, sb, sc, sd⟩ := s
  have HE := Lib.hid (show sumO ⟨sa, sb, sc, sd⟩ = puts sa 8 ++ puts sb 8 ++ puts sc 8 ++ puts sd 8 from rfl)
  have hb : ∀ x : Int, -9223372036854775808 ≤ IntKind.i64.wrap x ∧ IntKind.i64.wrap x ≤ 9223372036854775807 := fun x => by rw [IntKind.wrap_i64]; omega
  have HA := Lib.hid (hb sa)
  have HB := Lib.hid (hb sb)
  have HC := Lib.hid (hb sc)
  have HD := Lib.hid (hb sd)
  have PA := Lib.hid (puts_i64 sa)
  have PB := Lib.hid (puts_i64 sb)
  have PC := Lib.hid (puts_i64 sc)
  have PD := Lib.hid (puts_i64 sd)
  clear hb
  simp only [Su.cells]
  go_enter Tryz.func100, Tryz.ntmps100
  go_wp2_with fail
  generalize hwH : World.alloc w _ = w1; have HH := Lib.hid (Heap.one hwH); clear hwH
  have HH0 := Lib.hid HH.out.drew
  clear HH
  refine wp_region_held_drew (S := Heap w [.box w.heap.size [.int .u64 sa, .int .u64 sb, .int .u64 sc, .int .u64 sd]]) (by kernel_rfl) HH0.out (fun hHeld => ?_)
  refine tS 0 ?_; (try simp only [Act.put, lyA, lyB, lyC])
  refine tG 1 rfl (fun wT hST => sh_run_load1 hST rfl rfl 0 rfl rfl (by kernel_rfl)) hHeld ?_; (try simp only [Act.put, lyA, lyB, lyC])
  refine tS 2 ?_; (try simp only [Act.put, lyA, lyB, lyC])
  refine tS 4 ?_; (try simp only [Act.put, lyA, lyB, lyC])
  refine tG 5 rfl (fun wT hST => sh_run_load1 hST rfl rfl 0 rfl rfl (by kernel_rfl)) hHeld ?_; (try simp only [Act.put, lyA, lyB, lyC])
  refine tS 6 ?_; (try simp only [Act.put, lyA, lyB, lyC])
  refine tS 8 ?_; (try simp only [Act.put, lyA, lyB, lyC])
  refine tG 9 rfl (fun wT hST => sh_run_load1 hST rfl rfl 0 rfl rfl (by kernel_rfl)) hHeld ?_; (try simp only [Act.put, lyA, lyB, lyC])
  refine tS 10 ?_; (try simp only [Act.put, lyA, lyB, lyC])
  refine tS 12 ?_; (try simp only [Act.put, lyA, lyB, lyC])
  refine tG 13 rfl (fun wT hST => sh_run_load1 hST rfl rfl 0 rfl rfl (by kernel_rfl)) hHeld ?_; (try simp only [Act.put, lyA, lyB, lyC])
  refine tS 14 ?_; (try simp only [Act.put, lyA, lyB, lyC])
  generalize IntKind.i64.wrap sa = ya at *
  generalize IntKind.i64.wrap sb = yb at *
  generalize IntKind.i64.wrap sc = yc at *
  generalize IntKind.i64.wrap sd = yd at *
  clear hHeld
  refine oS 3 (fun K hK => ?_); go_simp; refine (put_any ya _ 8 (by omega) rfl _ HA.out.1 HA.out.2).mono ?_; rintro e w2 ⟨vw2, rfl, hownw2, ew2⟩; obtain ⟨Aw2, cw2, rfl, _, _, _⟩ := own_form hownw2; have HH2 := Lib.hid ((HH0).out.addRow ew2 hownw2); clear HH0 hownw2 ew2; go_wp2_with fail
  refine hK.out _ _ HH2.out.tail (fun hHeld => ?_); clear hK K; (try simp only [Act.put, lyA, lyB, lyC])
  clear hHeld
  refine oS 7 (fun K hK => ?_); go_simp; refine (put_any yb _ 8 (by omega) rfl _ HB.out.1 HB.out.2).mono ?_; rintro e w3 ⟨vw3, rfl, hownw3, ew3⟩; obtain ⟨Aw3, cw3, rfl, _, _, _⟩ := own_form hownw3; have HH3 := Lib.hid ((HH2).out.addRow ew3 hownw3); clear HH2 hownw3 ew3; go_wp2_with fail
  refine hK.out _ _ HH3.out.tail.tail (fun hHeld => ?_); clear hK K; (try simp only [Act.put, lyA, lyB, lyC])
  clear hHeld
  refine oS 11 (fun K hK => ?_); go_simp; refine (put_any yc _ 8 (by omega) rfl _ HC.out.1 HC.out.2).mono ?_; rintro e w4 ⟨vw4, rfl, hownw4, ew4⟩; obtain ⟨Aw4, cw4, rfl, _, _, _⟩ := own_form hownw4; have HH4 := Lib.hid ((HH3).out.addRow ew4 hownw4); clear HH3 hownw4 ew4; go_wp2_with fail
  refine hK.out _ _ HH4.out.tail.tail.tail (fun hHeld => ?_); clear hK K; (try simp only [Act.put, lyA, lyB, lyC])
  clear hHeld
  refine oS 15 (fun K hK => ?_); go_simp; refine (put_any yd _ 8 (by omega) rfl _ HD.out.1 HD.out.2).mono ?_; rintro e w5 ⟨vw5, rfl, hownw5, ew5⟩; obtain ⟨Aw5, cw5, rfl, _, _, _⟩ := own_form hownw5; have HH5 := Lib.hid ((HH4).out.addRow ew5 hownw5); clear HH4 hownw5 ew5; go_wp2_with fail
  refine hK.out _ _ HH5.out.tail.tail.tail.tail (fun hHeld => ?_); clear hK K; (try simp only [Act.put, lyA, lyB, lyC])
  clear hHeld
  refine oS 16 (fun K hK => ?_)
  go_simp
  generalize hwA : World.alloc w5 _ = w6
  have HH6 := Lib.hid (HH5.out.allocE hwA)
  clear hwA HH5
  refine hK.out _ _ HH6.out.tail.tail.tail.tail.tail (fun hHeld => ?_); clear hK K; (try simp only [Act.put, lyA, lyB, lyC])
  clear hHeld
  refine oS 17 (fun K hK => ?_)
  go_simp
  refine (join_any w6 _ 4 4 [⟨Aw2, 8, cw2, puts ya 8⟩, ⟨Aw3, 8, cw3, puts yb 8⟩, ⟨Aw4, 8, cw4, puts yc 8⟩, ⟨Aw5, 8, cw5, puts yd 8⟩] rfl
    (fun _ => ⟨_, 0, rfl, Nat.zero_le _, (HH6.out.boxAt 0 rfl).lt, fun j u hu => by rw [Nat.zero_add]; exact (HH6.out.boxAt 0 rfl).cell j u hu⟩)
    (fun x hx => by
      simp only [List.mem_cons, List.not_mem_nil, or_false] at hx
      rcases hx with rfl | rfl | rfl | rfl
      · exact ⟨(puts_length _ _).symm, (Rd.of_own (HH6.out.rowAt 4 rfl)).m0⟩
      · exact ⟨(puts_length _ _).symm, (Rd.of_own (HH6.out.rowAt 3 rfl)).m0⟩
      · exact ⟨(puts_length _ _).symm, (Rd.of_own (HH6.out.rowAt 2 rfl)).m0⟩
      · exact ⟨(puts_length _ _).symm, (Rd.of_own (HH6.out.rowAt 1 rfl)).m0⟩)
    (by omega) (by simp [catL, puts_length])).mono ?_
  rintro e w7 ⟨v7, rfl, hown7, e7⟩
  have HO := Lib.hid (own_lower hown7 HH6.out.ext.size)
  have HX := Lib.hid (HH6.out.ext.trans e7)
  have HS7 := Lib.hid (HH6.out.later e7)
  clear hown7 e7
  go_wp2_with fail
  refine hK.out _ _ HS7.out.tail.tail.tail.tail.tail (fun hHeld => ?_); clear hK K; (try simp only [Act.put, lyA, lyB, lyC])
  refine tS 18 ?_; (try simp only [Act.put, lyA, lyB, lyC])
  refine wpAnyH_done (by kernel_rfl) ?_ _
  go_wp2_with fail
  go_ret
  refine ⟨_, rfl, ?_, HX.out⟩
  have h := HO.out
  have hc : catL [⟨Aw2, 8, cw2, puts ya 8⟩, ⟨Aw3, 8, cw3, puts yb 8⟩, ⟨Aw4, 8, cw4, puts yc 8⟩, ⟨Aw5, 8, cw5, puts yd 8⟩] = sumO ⟨sa, sb, sc, sd⟩ := by
    rw [HE.out, ← PA.out, ← PB.out, ← PC.out, ← PD.out]
    simp [catL, List.append_assoc]
  rw [hc, sumO_length] at h
  exact h
end Go.Proofs.YtfongpdeflfioaaGreat
