/- What the functions of package pack come to, as plain Lean: no program, no memory. -/
import Derived.Test.YtnfdgbapionojaaPx1
import Derived.Test.YtnfdgbapionojaaPx2
import Derived.Test.YtnfdgbapionojaaPx3
import Derived.Laws.Bits64
import Derived.Laws.Bits64b
import Derived.Lib.Strings
namespace Go.Proofs.Ytnfdgbapionojaa.Pure
open Go.RowKit Go.Proofs.Ytnfdgbapionojaa.P Go.Proofs.YtnfdgbapionojaaW.PrintWords Go.Proofs.YtnfdgbapionojaaW.PrintLast Go.Proofs.YtnfdgbapionojaaW.PrintMore
set_option linter.unusedVariables false
set_option linter.unusedSimpArgs false

theorem w64 {n : Int} (h0 : -9223372036854775808 ≤ n) (h1 : n ≤ 9223372036854775807) : wrap64 n = n := by unfold wrap64; omega

/-! ### bytes as lists -/
def mk (l : List UInt8) : ByteArray := ⟨l.toArray⟩
theorem mk_of (b : ByteArray) : ∃ l, b = mk l := ⟨b.data.toList, by cases b; simp [mk]⟩
theorem mk_size (l : List UInt8) : (mk l).size = l.length := by simp [mk, ByteArray.size]
theorem mk_toList (l : List UInt8) : (mk l).toList = l := by rw [ByteArray.toList_eq]; simp [mk]
theorem mk_data (l : List UInt8) : (mk l).data.toList = l := by simp [mk]
theorem mk_inj {l m : List UInt8} (h : mk l = mk m) : l = m := by rw [← mk_toList l, h, mk_toList]
theorem mk_app (l m : List UInt8) : mk l ++ mk m = mk (l ++ m) := by
  apply ByteArray.ext
  simp [mk]
theorem mk_extract (l : List UInt8) (a b : Nat) : (mk l).extract a b = mk ((l.drop a).take (b - a)) := by
  obtain ⟨m, hm⟩ := mk_of ((mk l).extract a b)
  have := Lib.extract_toList (mk l) a b
  rw [hm, mk_toList, mk_data] at this
  rw [hm, this]
theorem mk_nil : (⟨#[]⟩ : ByteArray) = mk [] := rfl
theorem mk_empty : ByteArray.empty = mk [] := rfl

/-! ### numbers as bytes -/
def digs (v : Nat) : Nat → List Int
  | 0 => []
  | i + 1 => ((v / 256 ^ i % 256 : Nat) : Int) :: digs v i
def enc (v n : Nat) : List UInt8 := (digs v n).map fun x => UInt8.ofNat x.toNat
theorem digs_length (v n : Nat) : (digs v n).length = n := by induction n with | zero => rfl | succ n ih => simp [digs, ih]
theorem enc_length (v n : Nat) : (enc v n).length = n := by simp [enc, digs_length]
theorem enc_succ (v n : Nat) : enc v (n + 1) = UInt8.ofNat (v / 256 ^ n % 256) :: enc v n := by
  show UInt8.ofNat (((v / 256 ^ n % 256 : Nat) : Int)).toNat :: _ = _
  rw [Int.toNat_natCast]; rfl
theorem str_digs (v n : Nat) : strOfNums (digs v n) = mk (enc v n) := rfl

def val (a : Nat) (l : List UInt8) : Nat := l.foldl (fun a b => a * 256 + b.toNat) a
theorem val_enc (v n : Nat) : ∀ a, val a (enc v n) = a * 256 ^ n + v % 256 ^ n := by
  induction n with
  | zero => intro a; simp [val, enc, digs, Nat.mod_one]
  | succ n ih =>
    intro a
    rw [enc_succ]
    show val (a * 256 + (UInt8.ofNat (v / 256 ^ n % 256)).toNat) (enc v n) = _
    rw [ih, UInt8.toNat_ofNat_of_lt' (by show _ < 256; exact Nat.mod_lt _ (by omega)), Nat.pow_succ, Nat.mod_mul, Nat.add_mul, Nat.mul_assoc, Nat.mul_comm 256 (256 ^ n), Nat.mul_comm (v / 256 ^ n % 256) (256 ^ n)]
    omega
theorem val_lt : ∀ (l : List UInt8) (a : Nat), val a l < (a + 1) * 256 ^ l.length
  | [], a => by simp [val]
  | b :: l, a => by
    have h := val_lt l (a * 256 + b.toNat)
    have hb : b.toNat < 256 := b.toNat_lt
    show val (a * 256 + b.toNat) l < _
    rw [List.length_cons, Nat.pow_succ]
    have : (a * 256 + b.toNat + 1) * 256 ^ l.length ≤ ((a + 1) * 256) * 256 ^ l.length := Nat.mul_le_mul_right _ (by omega)
    rw [Nat.mul_comm (256 ^ l.length) 256, ← Nat.mul_assoc]
    omega

theorem shr_pow (v i : Nat) (hi : i ≤ 8) : shr .u64 (v : Int) (8 * (i : Int)) = ((v / 256 ^ i : Nat) : Int) := by
  unfold shr
  have e1 : (8 * (i : Int)).toNat = 8 * i := by omega
  have h : (2 : Nat) ^ (8 * i) = 256 ^ i := by rw [Nat.pow_mul]
  have h2 : (2 : Int) ^ (8 * i) = ((256 ^ i : Nat) : Int) := by rw [← h]; simp
  rw [show IntKind.bits .u64 = 64 from rfl, e1, Nat.min_eq_left (by omega), h2]
  exact (Int.natCast_ediv v (256 ^ i)).symm

theorem set_rep (m : Nat) (x : Int) (d : List Int) : (List.replicate (m + 1) (0 : Int) ++ d).set m x = List.replicate m 0 ++ (x :: d) := by
  induction m with
  | zero => rfl
  | succ m ih =>
    rw [List.replicate_succ, List.cons_append, List.set_cons_succ, ih]
    rfl

theorem big_l (v n : Nat) (hn : n ≤ 8) (d : Nat) : ∀ (k i : Nat), n - i = d → i ≤ n → d < k → pack_big.l0 k (v : Int) (n : Int) (List.replicate (n - i) 0 ++ digs v i) (n : Int) (i : Int) = some (mk (enc v n)) := by
  induction d with
  | zero =>
    intro k i hd hi hk
    obtain ⟨k, rfl⟩ : ∃ m, k = m + 1 := ⟨k - 1, by omega⟩
    have : i = n := by omega
    subst this
    simp only [pack_big.l0]; rw [if_neg (by omega), Nat.sub_self, List.replicate_zero, List.nil_append, str_digs]
  | succ d ih =>
    intro k i hd hi hk
    obtain ⟨k, rfl⟩ : ∃ m, k = m + 1 := ⟨k - 1, by omega⟩
    obtain ⟨m, hm⟩ : ∃ m, n - i = m + 1 := ⟨n - i - 1, by omega⟩
    have hl : (List.replicate (n - i) (0 : Int) ++ digs v i).length = n := by rw [List.length_append, List.length_replicate, digs_length]; omega
    simp only [pack_big.l0]
    rw [w64 (n := (n : Int) - 1) (by omega) (by omega), w64 (n := (n : Int) - 1 - i) (by omega) (by omega), w64 (n := 8 * (i : Int)) (by omega) (by omega), w64 (n := (i : Int) + 1) (by omega) (by omega), shr_pow v i (by omega)]
    rw [if_pos (by omega), if_pos (by omega), if_pos (by omega), if_pos (by rw [hl]; omega)]
    have e1 : ((n : Int) - 1 - (i : Int)).toNat = m := by omega
    have e2 : (((v / 256 ^ i : Nat) : Int) % 256) = ((v / 256 ^ i % 256 : Nat) : Int) := by omega
    rw [e1, e2, hm, set_rep, show (i : Int) + 1 = ((i + 1 : Nat) : Int) by omega]
    have := ih k (i + 1) (by omega) (by omega) (by omega)
    rw [show n - (i + 1) = m by omega] at this
    exact this

theorem big_eq (v n : Nat) (hn : n ≤ 8) (k : Nat) (hk : 9 < k) : pack_big.f k (v : Int) (n : Int) = some (mk (enc v n)) := by
  unfold pack_big.f
  rw [if_pos (by omega), if_pos (by omega), Option.bind_some, Int.toNat_natCast, List.length_replicate]
  have := big_l v n hn n k 0 (by omega) (by omega) (by omega)
  simpa [digs] using this

theorem num_yes (v : Nat) (h : v ≤ 65535) (k : Nat) (hk : 9 < k) : pack_Num.f k (v : Int) = some (mk (enc v 2), true) := by
  unfold pack_Num.f
  have := big_eq v 2 (by omega) k hk
  rw [if_neg (by omega), if_neg (by omega), IntKind.wrap_u64, show (v : Int) % 18446744073709551616 = (v : Int) by omega, show (2 : Int) = ((2 : Nat) : Int) from rfl, this]
  rfl
theorem num_no (v : Int) (h : v < 0 ∨ v > 65535) (k : Nat) : pack_Num.f k v = some (mk [], false) := by
  unfold pack_Num.f
  rcases h with h | h
  · rw [if_pos h]; rfl
  · rw [if_neg (by omega), if_pos h]; rfl
def encT (l : List UInt8) : List UInt8 := enc l.length 1 ++ l
theorem encT_length (l : List UInt8) : (encT l).length = l.length + 1 := by simp [encT, enc_length]; omega
theorem text_yes (l : List UInt8) (h : l.length ≤ 255) (k : Nat) (hk : 9 < k) : pack_Text.f k (mk l) = some (mk (encT l), true) := by
  unfold pack_Text.f
  have := big_eq l.length 1 (by omega) k hk
  rw [mk_size, if_neg (by omega), IntKind.wrap_u64, show (l.length : Int) % 18446744073709551616 = (l.length : Int) by omega, show (1 : Int) = ((1 : Nat) : Int) from rfl, this, Option.bind_some, if_pos (by rw [mk_size, enc_length]; omega), mk_app]
  rfl
theorem text_no (l : List UInt8) (h : 255 < l.length) (k : Nat) : pack_Text.f k (mk l) = some (mk [], false) := by
  unfold pack_Text.f
  rw [mk_size, if_pos (by omega)]; rfl
theorem wide_eq (v : Nat) (k : Nat) (hk : 9 < k) : pack_Wide.f k (v : Int) = some (mk (enc v 8)) := by
  unfold pack_Wide.f
  have := big_eq v 8 (by omega) k hk
  rw [show (8 : Int) = ((8 : Nat) : Int) from rfl, this]; rfl
theorem from_eq (b : ByteArray) : pack_From.f b = some (b, false) := rfl

/-! ### the reader -/
theorem clone_eq (l : List UInt8) (h : l.length ≤ 281474976710656) : strings_Clone.f (mk l) = some (mk l) := by
  unfold strings_Clone.f stringslite_Clone.f
  rw [if_pos (by rw [mk_size]; exact h)]; rfl

def rtake (l : List UInt8) (bad : Bool) (n : Nat) : List UInt8 × List UInt8 × Bool := if bad = true ∨ l.length < n then ([], l, true) else (l.take n, l.drop n, false)
theorem take_eq (l : List UInt8) (bad : Bool) (n : Nat) (h : l.length ≤ 281474976710656) : pack_Reader_take.f (mk l) bad (n : Int) = some (mk (rtake l bad n).1, mk (rtake l bad n).2.1, (rtake l bad n).2.2) := by
  unfold pack_Reader_take.f rtake
  cases bad with
  | true => simp [mk_nil]
  | false =>
    rw [if_neg (by simp), mk_size]
    by_cases c : l.length < n
    · rw [if_pos (by omega), if_pos (.inr c)]
      simp [mk_nil]
    · rw [if_neg (by omega), if_pos (by omega), if_pos (by omega), if_neg (by simp; omega), Int.toNat_natCast, mk_extract, mk_extract, List.drop_zero, Nat.sub_zero, clone_eq _ (by rw [List.length_take]; omega), Option.bind_some, List.take_of_length_le (l := l.drop n) (by rw [List.length_drop]; omega)]

theorem bt_mk (l : List UInt8) (i : Nat) (h : i < l.length) : bt (mk l) (i : Int) = ((l[i].toNat : Nat) : Int) := by
  unfold bt
  rw [dif_pos (by rw [mk_size]; simpa using h)]
  simp [mk, ByteArray.getElem_eq_getElem_data]

theorem or_byte (x b : Nat) (hx : x < 72057594037927936) (hb : b < 256) : Go.bits .or .u64 (IntKind.u64.wrap ((x : Int) * 256)) (IntKind.u64.wrap (b : Int)) = ((x * 256 + b : Nat) : Int) := by
  rw [IntKind.wrap_u64, IntKind.wrap_u64, show (x : Int) * 256 % 18446744073709551616 = ((x * 256 : Nat) : Int) by omega, show (b : Int) % 18446744073709551616 = (b : Int) by omega, bits_or_u64_nat _ _ (by omega) (by omega)]
  have e8 : (2 : Nat) ^ 8 = 256 := by simp
  have := Nat.shiftLeft_add_eq_or_of_lt (i := 8) (b := b) (by rw [e8]; exact hb) x
  rw [Nat.shiftLeft_eq, e8] at this
  rw [← this]

theorem number_l (l : List UInt8) (hl : l.length ≤ 8) (c : ByteArray) (bad : Bool) (d : Nat) : ∀ (k i x : Nat), l.length - i = d → i ≤ l.length → d < k → x < 256 ^ i → pack_Reader_number.l0 k (x : Int) (mk l) (i : Int) c bad = some (((val x (l.drop i) : Nat) : Int), c, bad) := by
  induction d with
  | zero =>
    intro k i x hd hi hk hx
    obtain ⟨k, rfl⟩ : ∃ m, k = m + 1 := ⟨k - 1, by omega⟩
    simp only [pack_Reader_number.l0]
    rw [if_pos (by rw [mk_size]; omega), List.drop_eq_nil_of_le (by omega)]; rfl
  | succ d ih =>
    intro k i x hd hi hk hx
    obtain ⟨k, rfl⟩ : ∃ m, k = m + 1 := ⟨k - 1, by omega⟩
    have hlt : i < l.length := by omega
    have hp : (256 : Nat) ^ i ≤ 256 ^ 7 := Nat.pow_le_pow_right (by omega) (by omega)
    have e7 : (256 : Nat) ^ 7 = 72057594037927936 := by simp
    have hb : l[i].toNat < 256 := l[i].toNat_lt
    simp only [pack_Reader_number.l0]
    rw [if_neg (by rw [mk_size]; omega), if_pos (by omega), if_pos (by rw [mk_size]; omega), bt_mk l i hlt, or_byte x _ (by omega) hb, w64 (by omega) (by omega), show (i : Int) + 1 = ((i + 1 : Nat) : Int) by omega]
    rw [ih k (i + 1) _ (by omega) (by omega) (by omega) (by rw [Nat.pow_succ]; omega), List.drop_eq_getElem_cons hlt]
    rfl

def readN (l : List UInt8) (bad : Bool) (n : Nat) : Nat × List UInt8 × Bool := (val 0 (rtake l bad n).1, (rtake l bad n).2)
theorem number_eq (l : List UInt8) (bad : Bool) (n : Nat) (hn : n ≤ 8) (h : l.length ≤ 281474976710656) (k : Nat) (hk : 9 < k) : pack_Reader_number.f k (mk l) bad (n : Int) = some (((readN l bad n).1 : Int), mk (readN l bad n).2.1, (readN l bad n).2.2) := by
  unfold pack_Reader_number.f
  rw [take_eq l bad n h, Option.bind_some]
  have hl : (rtake l bad n).1.length ≤ 8 := by
    unfold rtake; split
    · simp
    · simp only [List.length_take]; omega
  have := number_l (rtake l bad n).1 hl (mk (rtake l bad n).2.1) (rtake l bad n).2.2 (rtake l bad n).1.length k 0 0 (by omega) (by omega) (by omega) (by simp)
  exact this

theorem readN_lt (l : List UInt8) (bad : Bool) (n : Nat) : (readN l bad n).1 < 256 ^ n := by
  unfold readN rtake
  split
  · simp [val]; exact Nat.pow_pos (by omega)
  · have := val_lt (l.take n) 0
    rw [List.length_take, Nat.min_eq_left (by omega)] at this
    simpa using this

theorem rnum_eq (l : List UInt8) (bad : Bool) (h : l.length ≤ 281474976710656) (k : Nat) (hk : 9 < k) : pack_Reader_Num.f k (mk l) bad = some (((readN l bad 2).1 : Int), mk (readN l bad 2).2.1, (readN l bad 2).2.2) := by
  unfold pack_Reader_Num.f
  have := number_eq l bad 2 (by omega) h k hk
  have h2 := readN_lt l bad 2
  rw [show (2 : Int) = ((2 : Nat) : Int) from rfl, this, Option.bind_some]
  simp only
  rw [w64 (by omega) (by omega)]
theorem rwide_eq (l : List UInt8) (bad : Bool) (h : l.length ≤ 281474976710656) (k : Nat) (hk : 9 < k) : pack_Reader_Wide.f k (mk l) bad = some (((readN l bad 8).1 : Int), mk (readN l bad 8).2.1, (readN l bad 8).2.2) := by
  unfold pack_Reader_Wide.f
  have := number_eq l bad 8 (by omega) h k hk
  rw [show (8 : Int) = ((8 : Nat) : Int) from rfl, this, Option.bind_some]

def readT (l : List UInt8) (bad : Bool) : List UInt8 × List UInt8 × Bool := rtake (readN l bad 1).2.1 (readN l bad 1).2.2 (readN l bad 1).1
theorem rtake_rest (l : List UInt8) (bad : Bool) (n : Nat) : (rtake l bad n).2.1.length ≤ l.length := by
  unfold rtake; split
  · exact Nat.le_refl _
  · simp
theorem rtext_eq (l : List UInt8) (bad : Bool) (h : l.length ≤ 281474976710656) (k : Nat) (hk : 9 < k) : pack_Reader_Text.f k (mk l) bad = some (mk (readT l bad).1, mk (readT l bad).2.1, (readT l bad).2.2) := by
  unfold pack_Reader_Text.f
  have := number_eq l bad 1 (by omega) h k hk
  have h1 := readN_lt l bad 1
  have h2 : (readN l bad 1).2.1.length ≤ l.length := rtake_rest l bad 1
  rw [show (1 : Int) = ((1 : Nat) : Int) from rfl, this, Option.bind_some]
  simp only
  rw [w64 (by omega) (by omega), take_eq _ _ _ (by omega), Option.bind_some]
  rfl
theorem rbad_eq (l : List UInt8) (bad : Bool) : pack_Reader_Bad.f (mk l) bad = some (bad, mk l, bad) := rfl
theorem rend_eq (l : List UInt8) (bad : Bool) : pack_Reader_End.f (mk l) bad = some (!bad && l.isEmpty, mk l, bad) := by
  unfold pack_Reader_End.f
  rw [rbad_eq, Option.bind_some]
  cases bad with
  | true => rfl
  | false =>
    simp only [Bool.false_eq_true, if_false, mk_toList]
    cases l <;> rfl

/-! what was written is read -/
theorem rtake_app (a r : List UInt8) : rtake (a ++ r) false a.length = (a, r, false) := by
  unfold rtake
  rw [if_neg (by simp)]
  simp
theorem readN_enc (v n : Nat) (r : List UInt8) : readN (enc v n ++ r) false n = (v % 256 ^ n, r, false) := by
  unfold readN
  have := rtake_app (enc v n) r
  rw [enc_length] at this
  rw [this, val_enc]
  simp
theorem readT_enc (l r : List UInt8) (h : l.length ≤ 255) : readT (encT l ++ r) false = (l, r, false) := by
  unfold readT encT
  rw [List.append_assoc, readN_enc]
  simp only [Nat.pow_one, Nat.mod_eq_of_lt (show l.length < 256 by omega)]
  exact rtake_app l r
theorem rtake_bad (l : List UInt8) (n : Nat) : rtake l true n = ([], l, true) := by simp [rtake]
theorem readN_bad (l : List UInt8) (n : Nat) : readN l true n = (0, l, true) := by simp [readN, rtake_bad, val]
theorem readT_bad (l : List UInt8) : readT l true = ([], l, true) := by simp [readT, readN_bad, rtake_bad]

theorem alive_at : rosarylaw3_alive.f 40 = some true := by decide +kernel
theorem alive_eq (k : Nat) (hk : 40 ≤ k) : rosarylaw3_alive.f k = some true := at_rounds (fun k => rosarylaw3_alive.mono k) hk alive_at
end Go.Proofs.Ytnfdgbapionojaa.Pure
