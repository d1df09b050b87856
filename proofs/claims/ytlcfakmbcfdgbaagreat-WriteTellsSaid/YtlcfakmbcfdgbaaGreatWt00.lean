/- UTF-8 in plain lists of bytes: what a first byte says, what stands at a byte, whether a text is right; no program in sight. · NFC, plain: classes, what a scalar is made of, parts, the sort, the whole; no program in sight. · Bits of int and of bytes as sums and remainders. · The walks over the UTF-8 layer: the program's 'follow', 'piece' and the document's 'lead', 'part'. · The walks over the UTF-8 layer: what stands at a byte. -/
import Derived.Test.YtlcfakmbcfdgbaaGreatProg
import Derived.WalkKit
import Derived.WalkSpells
import Derived.WalkLawsBesides
import Derived.Deep.LoopGhost
set_option linter.unusedSimpArgs false
set_option linter.unusedVariables false
namespace Go.Proofs.YtlcfakmbcfdgbaaGreat
namespace Utf

/-- What a first byte says: how many follow (-1: it is none), its bits, the next byte's least and greatest. -/
def follow (c : Int) : Int × Int × Int × Int :=
  if c < 128 then (0, c, 128, 191)
  else if c < 194 ∨ 244 < c then (-1, 0, 128, 191)
  else if c < 224 then (1, c % 32, 128, 191)
  else if c < 240 then (2, c % 16, if c = 224 then 160 else 128, if c = 237 then 159 else 191)
  else (3, c % 8, if c = 240 then 144 else 128, if c = 244 then 143 else 191)

/-- The bytes that follow: so many are still wanted; the scalar so far, how many bytes are behind. -/
def cont : List UInt8 → Nat → Int → Int → Int → Int → Int × Int
  | _, 0, r, n, _, _ => (r, n)
  | [], _ + 1, _, n, _, _ => (-1, n)
  | c :: l, k + 1, r, n, lo, hi => if (c.toNat : Int) < lo ∨ hi < (c.toNat : Int) then (-1, n) else cont l k (r * 64 + (c.toNat : Int) % 64) (n + 1) 128 191

/-- What stands at the head: a scalar (-1: a wrong part), and how many bytes that is. -/
def piece : List UInt8 → Int × Int
  | [] => (-1, 1)
  | c :: l => if (follow c.toNat).1 < 0 then (-1, 1) else cont l (follow c.toNat).1.toNat (follow c.toNat).2.1 1 (follow c.toNat).2.2.1 (follow c.toNat).2.2.2

def validN : Nat → List UInt8 → Bool
  | _, [] => true
  | 0, _ :: _ => false
  | k + 1, c :: l => if (piece (c :: l)).1 < 0 then false else validN k ((c :: l).drop (piece (c :: l)).2.toNat)

/-- Whether a text is right. -/
def valid (l : List UInt8) : Bool := validN l.length l

def isScalar (r : Int) : Bool := decide (0 ≤ r ∧ r ≤ 1114111 ∧ (r < 55296 ∨ 57343 < r))

/-- A scalar's bytes, as numbers. -/
def put (r : Int) : List Int :=
  if r < 128 then [r] else if r < 2048 then [192 + r / 64, 128 + r % 64] else if r < 65536 then [224 + r / 64 / 64, 128 + r / 64 % 64, 128 + r % 64]
  else [240 + r / 64 / 64 / 64, 128 + r / 64 / 64 % 64, 128 + r / 64 % 64, 128 + r % 64]

theorem follow_cases (c : Int) (h0 : 0 ≤ c) (h1 : c ≤ 255) :
    ((follow c).1 = 0 ∧ (follow c).2.1 = c ∧ c < 128) ∨ ((follow c).1 = -1 ∧ (follow c).2.1 = 0) ∨
    ((follow c).1 = 1 ∧ 2 ≤ (follow c).2.1 ∧ (follow c).2.1 < 32 ∧ (follow c).2.2.1 = 128 ∧ (follow c).2.2.2 = 191) ∨
    ((follow c).1 = 2 ∧ 0 ≤ (follow c).2.1 ∧ (follow c).2.1 < 16 ∧ 128 ≤ (follow c).2.2.1 ∧ (follow c).2.2.2 ≤ 191 ∧
      ((follow c).2.1 = 13 → (follow c).2.2.2 = 159) ∧ ((follow c).2.1 = 0 → (follow c).2.2.1 = 160)) ∨
    ((follow c).1 = 3 ∧ 0 ≤ (follow c).2.1 ∧ (follow c).2.1 ≤ 4 ∧ 128 ≤ (follow c).2.2.1 ∧ (follow c).2.2.2 ≤ 191 ∧
      ((follow c).2.1 = 4 → (follow c).2.2.2 = 143) ∧ ((follow c).2.1 = 0 → (follow c).2.2.1 = 144)) := by
  unfold follow
  by_cases a : c < 128
  · left; simp [a]
  by_cases b : c < 194 ∨ 244 < c
  · right; left; simp [a, b]
  by_cases d : c < 224
  · right; right; left; rw [if_neg a, if_neg b, if_pos d]; refine ⟨rfl, ?_, ?_, rfl, rfl⟩ <;> simp only <;> omega
  by_cases e : c < 240
  · right; right; right; left
    rw [if_neg a, if_neg b, if_neg d, if_pos e]
    simp only
    refine ⟨trivial, by omega, by omega, ?_, ?_, ?_, ?_⟩
    · split <;> omega
    · split <;> omega
    · intro h; rw [if_pos (by omega)]
    · intro h; rw [if_pos (by omega)]
  · right; right; right; right
    rw [if_neg a, if_neg b, if_neg d, if_neg e]
    simp only
    refine ⟨trivial, by omega, by omega, ?_, ?_, ?_, ?_⟩
    · split <;> omega
    · split <;> omega
    · intro h; rw [if_pos (by omega)]
    · intro h; rw [if_pos (by omega)]

theorem follow_bits (c : Int) : ((follow c).1 = 1 → (follow c).2.1 = c % 32) ∧ ((follow c).1 = 2 → (follow c).2.1 = c % 16) ∧ ((follow c).1 = 3 → (follow c).2.1 = c % 8) := by
  unfold follow
  by_cases a : c < 128
  · rw [if_pos a]; simp
  by_cases b : c < 194 ∨ 244 < c
  · rw [if_neg a, if_pos b]; simp
  by_cases d : c < 224
  · rw [if_neg a, if_neg b, if_pos d]; simp
  by_cases e : c < 240
  · rw [if_neg a, if_neg b, if_neg d, if_pos e]; simp
  · rw [if_neg a, if_neg b, if_neg d, if_neg e]; simp

/-- The bounds of what 'cont' says: it ends within the list, at most k bytes on. -/
theorem cont_len : ∀ (l : List UInt8) (k : Nat) (r n lo hi : Int), n ≤ (cont l k r n lo hi).2 ∧ (cont l k r n lo hi).2 ≤ n + k ∧ (cont l k r n lo hi).2 ≤ n + l.length := by
  intro l
  induction l with
  | nil => intro k r n lo hi; cases k <;> simp [cont] <;> omega
  | cons c l ih =>
    intro k r n lo hi
    cases k with
    | zero => simp [cont]; omega
    | succ k =>
      simp only [cont]
      by_cases h : (c.toNat : Int) < lo ∨ hi < (c.toNat : Int)
      · rw [if_pos h]; simp; omega
      · rw [if_neg h]
        have := ih k (r * 64 + (c.toNat : Int) % 64) (n + 1) 128 191
        simp only [List.length_cons]
        omega

theorem piece_cons (c : UInt8) (l : List UInt8) : piece (c :: l) = if (follow c.toNat).1 < 0 then (-1, 1) else cont l (follow c.toNat).1.toNat (follow c.toNat).2.1 1 (follow c.toNat).2.2.1 (follow c.toNat).2.2.2 := rfl

theorem byte_lt (c : UInt8) : (c.toNat : Int) < 256 := by have := c.toNat_lt; omega

theorem piece_len (c : UInt8) (l : List UInt8) : 1 ≤ (piece (c :: l)).2 ∧ (piece (c :: l)).2 ≤ 4 ∧ (piece (c :: l)).2 ≤ (c :: l).length := by
  have hb := byte_lt c
  rw [piece_cons]
  by_cases h : (follow c.toNat).1 < 0
  · rw [if_pos h]; simp; omega
  · rw [if_neg h]
    have h1 := cont_len l (follow c.toNat).1.toNat (follow c.toNat).2.1 1 (follow c.toNat).2.2.1 (follow c.toNat).2.2.2
    have h2 := follow_cases c.toNat (by omega) (by omega)
    simp only [List.length_cons]
    have : (follow c.toNat).1 ≤ 3 := by rcases h2 with h | h | h | h | h <;> omega
    omega

theorem cont_neg : ∀ (l : List UInt8) (k : Nat) (r n lo hi : Int), 0 ≤ r → (cont l k r n lo hi).1 = -1 ∨ (0 ≤ (cont l k r n lo hi).1 ∧ (cont l k r n lo hi).2 = n + k) := by
  intro l
  induction l with
  | nil =>
    intro k r n lo hi hr
    cases k with
    | zero => right; simp [cont, hr]
    | succ k => left; simp [cont]
  | cons c l ih =>
    intro k r n lo hi hr
    cases k with
    | zero => right; simp [cont, hr]
    | succ k =>
      simp only [cont]
      by_cases h : (c.toNat : Int) < lo ∨ hi < (c.toNat : Int)
      · left; rw [if_pos h]
      · rw [if_neg h]
        rcases ih k (r * 64 + (c.toNat : Int) % 64) (n + 1) 128 191 (by omega) with h1 | ⟨h1, h2⟩
        · exact .inl h1
        · exact .inr ⟨h1, by rw [h2]; omega⟩

/-- A piece that is not wrong is a scalar. -/
theorem piece_scalar (l : List UInt8) (h : 0 ≤ (piece l).1) : isScalar (piece l).1 = true := by
  cases l with
  | nil => simp [piece] at h
  | cons c l =>
    have hb := byte_lt c
    have hc := follow_cases c.toNat (by omega) (by omega)
    rw [piece_cons] at h ⊢
    by_cases hn : (follow c.toNat).1 < 0
    · rw [if_pos hn] at h; simp at h
    rw [if_neg hn] at h ⊢
    unfold isScalar
    rw [decide_eq_true_eq]
    revert h
    rcases hc with ⟨e, e2, h3⟩ | ⟨e, _⟩ | ⟨e, h3, h4, e5, e6⟩ | ⟨e, h3, h4, h5, h6, h7, h8⟩ | ⟨e, h3, h4, h5, h6, h7, h8⟩
    · rw [e]; simp only [Int.toNat_zero]
      cases l <;> simp only [cont] <;> omega
    · omega
    · rw [e]
      simp only [show (1 : Int).toNat = 1 from rfl]
      cases l with
      | nil => simp [cont]
      | cons c1 l =>
        have b1 := byte_lt c1
        simp only [cont]
        split
        · simp
        · cases l <;> simp only [cont] <;> omega
    · rw [e]
      simp only [show (2 : Int).toNat = 2 from rfl]
      cases l with
      | nil => simp [cont]
      | cons c1 l =>
        have b1 := byte_lt c1
        simp only [cont]
        split
        · simp
        · cases l with
          | nil => simp [cont]
          | cons c2 l =>
            have b2 := byte_lt c2
            simp only [cont]
            split
            · simp
            · cases l <;> simp only [cont] <;> omega
    · rw [e]
      simp only [show (3 : Int).toNat = 3 from rfl]
      cases l with
      | nil => simp [cont]
      | cons c1 l =>
        have b1 := byte_lt c1
        simp only [cont]
        split
        · simp
        · cases l with
          | nil => simp [cont]
          | cons c2 l =>
            have b2 := byte_lt c2
            simp only [cont]
            split
            · simp
            · cases l with
              | nil => simp [cont]
              | cons c3 l =>
                have b3 := byte_lt c3
                simp only [cont]
                split
                · simp
                · cases l <;> simp only [cont] <;> omega

/-- What the document's 'part' says of a piece. -/
def part (f : Int × Int) : Int × Int × Bool := if f.1 < 0 then (0, f.2, false) else (f.1, f.2, true)

theorem validN_mono : ∀ (k : Nat) (l : List UInt8), l.length ≤ k → validN k l = validN l.length l := by
  intro k
  induction k using Nat.strongRecOn with
  | _ k ih =>
    intro l hl
    cases l with
    | nil => cases k <;> simp [validN]
    | cons c l =>
      cases k with
      | zero => simp at hl
      | succ k =>
        have hp := piece_len c l
        simp only [validN, List.length_cons]
        by_cases h : (piece (c :: l)).1 < 0
        · rw [if_pos h, if_pos h]
        · rw [if_neg h, if_neg h]
          simp only [List.length_cons] at hl hp
          have e : ((c :: l).drop (piece (c :: l)).2.toNat).length = l.length + 1 - (piece (c :: l)).2.toNat := by simp
          rw [ih k (by omega) _ (by rw [e]; omega)]
          by_cases hk : l.length = k
          · rw [hk, ih k (by omega) _ (by rw [e]; omega)]
          · rw [ih l.length (by omega) _ (by rw [e]; omega)]

theorem valid_nil : valid [] = true := rfl
theorem valid_cons (c : UInt8) (l : List UInt8) : valid (c :: l) = if (piece (c :: l)).1 < 0 then false else valid ((c :: l).drop (piece (c :: l)).2.toNat) := by
  have hp := piece_len c l
  unfold valid
  simp only [List.length_cons, validN]
  by_cases h : (piece (c :: l)).1 < 0
  · rw [if_pos h, if_pos h]
  · rw [if_neg h, if_neg h]
    exact validN_mono _ _ (by simp at hp ⊢; omega)

/-- A text's pieces: where each begins, its scalar (-1: a wrong part). -/
def piecesN : Nat → Nat → List UInt8 → List (Nat × Int)
  | _, _, [] => []
  | 0, _, _ :: _ => []
  | k + 1, at_, c :: l => (at_, (piece (c :: l)).1) :: piecesN k (at_ + (piece (c :: l)).2.toNat) ((c :: l).drop (piece (c :: l)).2.toNat)
def pieces (l : List UInt8) : List (Nat × Int) := piecesN l.length 0 l

theorem piecesN_mono : ∀ (k at_ : Nat) (l : List UInt8), l.length ≤ k → piecesN k at_ l = piecesN l.length at_ l := by
  intro k
  induction k using Nat.strongRecOn with
  | _ k ih =>
    intro at_ l hl
    cases l with
    | nil => cases k <;> simp [piecesN]
    | cons c l =>
      cases k with
      | zero => simp at hl
      | succ k =>
        have hp := piece_len c l
        simp only [piecesN, List.length_cons]
        simp only [List.length_cons] at hl hp
        have e : ((c :: l).drop (piece (c :: l)).2.toNat).length = l.length + 1 - (piece (c :: l)).2.toNat := by simp
        rw [ih k (by omega) _ _ (by rw [e]; omega)]
        by_cases hk : l.length = k
        · rw [hk, ih k (by omega) _ _ (by rw [e]; omega)]
        · rw [ih l.length (by omega) _ _ (by rw [e]; omega)]

/-- From a byte on. -/
def from_ (at_ : Nat) (l : List UInt8) : List (Nat × Int) := piecesN l.length at_ l
theorem from_nil (at_ : Nat) : from_ at_ [] = [] := rfl
theorem from_cons (at_ : Nat) (c : UInt8) (l : List UInt8) : from_ at_ (c :: l) = (at_, (piece (c :: l)).1) :: from_ (at_ + (piece (c :: l)).2.toNat) ((c :: l).drop (piece (c :: l)).2.toNat) := by
  have hp := piece_len c l
  unfold from_
  simp only [List.length_cons, piecesN]
  rw [piecesN_mono _ _ _ (by simp at hp ⊢; omega)]

/-- The first wrong part's place, or -1. -/
def firstBad : List (Nat × Int) → Int
  | [] => -1
  | p :: l => if p.2 < 0 then (p.1 : Int) else firstBad l

theorem firstBad_cons (p : Nat × Int) (l : List (Nat × Int)) : firstBad (p :: l) = if p.2 < 0 then (p.1 : Int) else firstBad l := rfl
theorem firstBad_neg {p : Nat × Int} (l : List (Nat × Int)) (h : p.2 < 0) : firstBad (p :: l) = p.1 := by rw [firstBad_cons, if_pos h]
theorem firstBad_pos {p : Nat × Int} (l : List (Nat × Int)) (h : ¬ p.2 < 0) : firstBad (p :: l) = firstBad l := by rw [firstBad_cons, if_neg h]

theorem firstBad_snoc (l : List (Nat × Int)) (p : Nat × Int) : firstBad (l ++ [p]) = if firstBad l < 0 then (if p.2 < 0 then (p.1 : Int) else -1) else firstBad l := by
  induction l with
  | nil => simp [firstBad]
  | cons q l ih =>
    rw [List.cons_append]
    by_cases h : q.2 < 0
    · rw [firstBad_neg _ h, firstBad_neg _ h, if_neg (by omega)]
    · rw [firstBad_pos _ h, firstBad_pos _ h, ih]

theorem firstBad_ge (l : List (Nat × Int)) : -1 ≤ firstBad l := by
  induction l with
  | nil => simp [firstBad]
  | cons q l ih => simp only [firstBad]; split <;> omega

/-- Mended bytes. -/
def mended (l : List (Nat × Int)) : List UInt8 := l.flatMap fun p => if p.2 < 0 then [0xEF, 0xBF, 0xBD] else (put p.2).map fun n => UInt8.ofNat n.toNat

theorem valid_from : ∀ (k : Nat) (l : List UInt8) (at_ : Nat), l.length ≤ k → (valid l = true ↔ firstBad (from_ at_ l) < 0) := by
  intro k
  induction k with
  | zero =>
    intro l at_ hl
    cases l with
    | nil => simp [valid_nil, from_nil, firstBad]
    | cons c l => simp at hl
  | succ k ih =>
    intro l at_ hl
    cases l with
    | nil => simp [valid_nil, from_nil, firstBad]
    | cons c l =>
      have hp := piece_len c l
      simp only [List.length_cons] at hl hp
      rw [valid_cons, from_cons]
      simp only [firstBad]
      by_cases h : (piece (c :: l)).1 < 0
      · rw [if_pos h, if_pos h]
        simp
      · rw [if_neg h, if_neg h]
        exact ih _ _ (by simp; omega)

theorem valid_pieces (l : List UInt8) : valid l = decide (firstBad (pieces l) < 0) := by
  rw [Bool.eq_iff_iff, decide_eq_true_eq]
  exact valid_from l.length l 0 (Nat.le_refl _)

end Utf
end Go.Proofs.YtlcfakmbcfdgbaaGreat
namespace Go.Proofs.YtlcfakmbcfdgbaaGreat
namespace Nf
/-- A scalar's class. -/
def cls (r : Int) : Int :=
  if r < 0x300 ∨ r > 0x345 then 0
  else if r ≤ 0x314 ∨ r = 0x340 ∨ r = 0x341 then 230
  else if r = 0x315 then 232
  else if r ≤ 0x319 ∨ (r ≥ 0x323 ∧ r ≤ 0x326) then 220
  else if r = 0x31B then 216
  else if r = 0x327 ∨ r = 0x328 then 202
  else if r = 0x338 then 1
  else if r = 0x345 then 240
  else 0
theorem cls_le (r : Int) : 0 ≤ cls r ∧ cls r ≤ 240 := by
  unfold cls
  repeat' split
  all_goals omega
/-- A row of the table: a mark, letters and wholes. -/
def rowOf (mark : Int) : List Int → List Int → List ((Int × Int) × Int)
  | a :: l, w :: ws => ((a, mark), w) :: rowOf mark l ws
  | _, _ => []
def l300 : List Int := [65, 69, 73, 79, 85, 97, 101, 105, 111, 117]
def l301 : List Int := [65, 69, 73, 79, 85, 89, 97, 101, 105, 111, 117, 121, 0xEA, 0xFC]
def l302 : List Int := [65, 69, 73, 79, 85, 97, 101, 105, 111, 117, 0x1EB9]
def l303 : List Int := [65, 78, 79, 97, 110, 111]
def l304 : List Int := [0xFC]
def l306 : List Int := [0x418, 0x438]
def l308 : List Int := [65, 69, 73, 79, 85, 97, 101, 105, 111, 117, 121, 0x415, 0x435]
def l30A : List Int := [65, 97]
def l30C : List Int := [67, 83, 90, 99, 115, 122]
def l323 : List Int := [101]
def l327 : List Int := [67, 99]
def w300 : List Int := [0xC0, 0xC8, 0xCC, 0xD2, 0xD9, 0xE0, 0xE8, 0xEC, 0xF2, 0xF9]
def w301 : List Int := [0xC1, 0xC9, 0xCD, 0xD3, 0xDA, 0xDD, 0xE1, 0xE9, 0xED, 0xF3, 0xFA, 0xFD, 0x1EBF, 0x1D8]
def w302 : List Int := [0xC2, 0xCA, 0xCE, 0xD4, 0xDB, 0xE2, 0xEA, 0xEE, 0xF4, 0xFB, 0x1EC7]
def w303 : List Int := [0xC3, 0xD1, 0xD5, 0xE3, 0xF1, 0xF5]
def w304 : List Int := [0x1D6]
def w306 : List Int := [0x419, 0x439]
def w308 : List Int := [0xC4, 0xCB, 0xCF, 0xD6, 0xDC, 0xE4, 0xEB, 0xEF, 0xF6, 0xFC, 0xFF, 0x401, 0x451]
def w30A : List Int := [0xC5, 0xE5]
def w30C : List Int := [0x10C, 0x160, 0x17D, 0x10D, 0x161, 0x17E]
def w323 : List Int := [0x1EB9]
def w327 : List Int := [0xC7, 0xE7]
/-- The table, in the order in which it is filled. -/
def table : List ((Int × Int) × Int) :=
  rowOf 0x300 l300 w300 ++ rowOf 0x301 l301 w301 ++ rowOf 0x302 l302 w302 ++ rowOf 0x303 l303 w303 ++ rowOf 0x304 l304 w304 ++ rowOf 0x306 l306 w306 ++ rowOf 0x308 l308 w308 ++ rowOf 0x30A l30A w30A ++ rowOf 0x30C l30C w30C ++ rowOf 0x323 l323 w323 ++ rowOf 0x327 l327 w327
def doubles : List (Int × Int) := [(0x340, 0x300), (0x341, 0x301), (0x2126, 0x3A9), (0x212A, 75), (0x212B, 0xC5)]
/-- The whole of two in the table. -/
def lookW (p : Int × Int) : List ((Int × Int) × Int) → Option Int
  | [] => none
  | x :: l => if x.1 = p then some x.2 else lookW p l
/-- What a whole is made of in the table. -/
def lookM (w : Int) : List ((Int × Int) × Int) → Option (Int × Int)
  | [] => none
  | x :: l => if x.2 = w then some x.1 else lookM w l
def lookD (r : Int) : List (Int × Int) → Option Int
  | [] => none
  | x :: l => if x.1 = r then some x.2 else lookD r l
theorem table_keys : (table.map (·.1)).Nodup := by decide +kernel
theorem table_vals : (table.map (·.2)).Nodup := by decide +kernel
def hangul (r : Int) : Bool := decide (0xAC00 ≤ r ∧ r < 0xAC00 + 11172)
/-- What a scalar is made of. -/
def made (r : Int) : Option (Int × Int) :=
  if hangul r then
    if 0 < (r - 0xAC00) % 28 then some (r - (r - 0xAC00) % 28, 0x11A7 + (r - 0xAC00) % 28)
    else some (0x1100 + (r - 0xAC00) / 28 / 21, 0x1161 + (r - 0xAC00) / 28 % 21)
  else match lookM r table with
    | some p => some p
    | none => (lookD r doubles).map fun a => (a, 0)
/-- A scalar taken apart, at most so deep. -/
def apart : Nat → Int → Option (List Int)
  | 0, _ => none
  | n + 1, r => match made r with
    | none => some [r]
    | some (a, b) => match apart n a with
      | none => none
      | some l => if b = 0 then some l else (apart n b).map fun m => l ++ m
theorem look_low : ∀ x ∈ table, x.2 < 0x1100 ∨ (0x1E00 ≤ x.2 ∧ x.2 < 0x2000) := by decide +kernel
theorem lookM_none {r : Int} : ∀ {l : List ((Int × Int) × Int)}, (∀ x ∈ l, x.2 ≠ r) → lookM r l = none
  | [], _ => rfl
  | x :: l, h => by rw [lookM, if_neg (h x (List.mem_cons_self ..))]; exact lookM_none fun y hy => h y (List.mem_cons_of_mem _ hy)
theorem lookM_mem {r : Int} {p : Int × Int} : ∀ {l : List ((Int × Int) × Int)}, lookM r l = some p → (p, r) ∈ l
  | [], h => by cases h
  | x :: l, h => by
    rw [lookM] at h
    split at h
    · rename_i hx; cases h; subst hx; exact List.mem_cons_self ..
    · exact List.mem_cons_of_mem _ (lookM_mem h)
theorem lookD_mem {r a : Int} : ∀ {l : List (Int × Int)}, lookD r l = some a → (r, a) ∈ l
  | [], h => by cases h
  | x :: l, h => by
    rw [lookD] at h
    split at h
    · rename_i hx; cases h; subst hx; exact List.mem_cons_self ..
    · exact List.mem_cons_of_mem _ (lookD_mem h)
theorem lookD_none {r : Int} : ∀ {l : List (Int × Int)}, (∀ x ∈ l, x.1 ≠ r) → lookD r l = none
  | [], _ => rfl
  | x :: l, h => by rw [lookD, if_neg (h x (List.mem_cons_self ..))]; exact lookD_none fun y hy => h y (List.mem_cons_of_mem _ hy)
/-- Jamo are made of nothing. -/
theorem made_jamo {r : Int} (h0 : 0x1100 ≤ r) (h1 : r < 0x1E00) : made r = none := by
  unfold made
  have h : hangul r = false := decide_eq_false (by omega)
  rw [h, lookM_none (fun x hx => by have := look_low x hx; omega), lookD_none (fun x hx => by
    simp only [doubles, List.mem_cons, List.not_mem_nil, or_false] at hx
    rcases hx with rfl | rfl | rfl | rfl | rfl <;> simp <;> omega)]
  rfl
theorem apart_jamo {n : Nat} {r : Int} (h0 : 0x1100 ≤ r) (h1 : r < 0x1E00) : apart (n + 1) r = some [r] := by rw [apart, made_jamo h0 h1]
/-- Two jamo. -/
theorem apart_two {n : Nat} {r : Int} (h : hangul r = true) (hm : (r - 0xAC00) % 28 = 0) : ∃ l, apart (n + 2) r = some l := by
  have hr := of_decide_eq_true h
  have e : made r = some (0x1100 + (r - 0xAC00) / 28 / 21, 0x1161 + (r - 0xAC00) / 28 % 21) := by
    unfold made
    rw [if_pos h, if_neg (by omega)]
  rw [apart, e]
  dsimp only
  rw [apart_jamo (by omega) (by omega), apart_jamo (by omega) (by omega)]
  dsimp only
  rw [if_neg (by omega)]
  exact ⟨_, rfl⟩
theorem apart_three {n : Nat} {r : Int} (h : hangul r = true) : ∃ l, apart (n + 3) r = some l := by
  have hr := of_decide_eq_true h
  by_cases hm : 0 < (r - 0xAC00) % 28
  · have e : made r = some (r - (r - 0xAC00) % 28, 0x11A7 + (r - 0xAC00) % 28) := by
      unfold made
      rw [if_pos h, if_pos hm]
    have h2 : hangul (r - (r - 0xAC00) % 28) = true := decide_eq_true (by omega)
    obtain ⟨l, hl⟩ := apart_two (n := n) h2 (by omega)
    rw [apart, e]
    dsimp only
    rw [hl, apart_jamo (by omega) (by omega)]
    dsimp only
    rw [if_neg (by omega)]
    exact ⟨_, rfl⟩
  · exact apart_two (n := n + 1) h (by omega)
theorem apart_table : ∀ x ∈ table, (apart 3 x.1.1).isSome = true ∧ (apart 3 x.1.2).isSome = true := by decide +kernel
theorem apart_doubles : ∀ x ∈ doubles, (apart 3 x.2).isSome = true := by decide +kernel
/-- Whatever a scalar is made of, four steps are enough. -/
theorem apart_some (r : Int) : ∃ l, apart 4 r = some l := by
  by_cases h : hangul r = true
  · exact apart_three (n := 1) h
  · have hf : hangul r = false := by simpa using h
    cases hm : lookM r table with
    | some p =>
      have e : made r = some p := by unfold made; rw [hf, hm]; rfl
      obtain ⟨h1, h2⟩ := apart_table _ (lookM_mem hm)
      obtain ⟨l, hl⟩ := Option.isSome_iff_exists.1 h1
      obtain ⟨m, hm2⟩ := Option.isSome_iff_exists.1 h2
      dsimp only at hl hm2
      rw [apart, e]
      dsimp only
      rw [hl]
      dsimp only
      split
      · exact ⟨_, rfl⟩
      · rw [hm2]; exact ⟨_, rfl⟩
    | none =>
      cases hd : lookD r doubles with
      | none =>
        have e : made r = none := by unfold made; rw [hf, hm, hd]; rfl
        exact ⟨_, by rw [apart, e]⟩
      | some a =>
        have e : made r = some (a, 0) := by unfold made; rw [hf, hm, hd]; rfl
        obtain ⟨l, hl⟩ := Option.isSome_iff_exists.1 (apart_doubles _ (lookD_mem hd))
        dsimp only at hl
        exact ⟨l, by rw [apart, e]; dsimp only; rw [hl]; rfl⟩
/-- A scalar's parts. -/
def parts (r : Int) : List Int := (apart 4 r).getD []
theorem parts_is (r : Int) : apart 4 r = some (parts r) := by
  obtain ⟨l, hl⟩ := apart_some r
  unfold parts
  rw [hl]; rfl
/-- The whole of two. -/
def whole (a b : Int) : Option Int :=
  if (0x1100 ≤ a ∧ a < 0x1100 + 19) ∧ (0x1161 ≤ b ∧ b < 0x1161 + 21) then some (0xAC00 + ((a - 0x1100) * 21 + b - 0x1161) * 28)
  else if hangul a = true ∧ (a - 0xAC00) % 28 = 0 ∧ (0x11A8 ≤ b ∧ b < 0x11A8 + 27) then some (a + b - 0x11A7)
  else lookW (a, b) table
/-- Scalars as runs: what stands first, and the marks behind it. -/
def marks (l : List Int) : List Int := l.takeWhile fun r => decide (0 < cls r)
def runs : Nat → List Int → List (List Int)
  | 0, _ => []
  | _ + 1, [] => []
  | n + 1, r :: l => (r :: marks l) :: runs n (l.drop (marks l).length)
/-- Put behind all whose class is no greater. -/
def ins (x : Int) : List Int → List Int
  | [] => [x]
  | y :: l => if cls x < cls y then x :: y :: l else y :: ins x l
def sortR (l : List Int) : List Int := l.foldl (fun acc x => ins x acc) []
def sort (l : List Int) : List Int := (runs (l.length + 1) l).flatMap sortR
/-- What composing has: what is out, the last starter's place, the highest class behind it. -/
structure Cs where
  out : List Int
  st : Int
  hi : Int
def cstep (s : Cs) (r : Int) : Cs :=
  match (if 0 ≤ s.st ∧ s.hi < cls r then whole (s.out.getD s.st.toNat 0) r else none) with
  | some w => ⟨s.out.set s.st.toNat w, s.st, s.hi⟩
  | none => if cls r = 0 then ⟨s.out ++ [r], s.out.length, -1⟩ else ⟨s.out ++ [r], s.st, max s.hi (cls r)⟩
def compose (l : List Int) : List Int := (l.foldl cstep ⟨[], -1, -1⟩).out
end Nf
end Go.Proofs.YtlcfakmbcfdgbaaGreat
namespace Go.Proofs.YtlcfakmbcfdgbaaGreat
open Go.RowKit

theorem hide {p : Prop} (h : p) : Hid p := h
/-- A call that leaves the world as it was. -/
theorem cq {P : Program} {f : FuncId} {args : Array Value} {w : World} {v : Value} {Q : Ending → World → Prop} (h : Calls P f args w fun e w' => e = .returned v ∧ w' = w) (k : Q (.returned v) w) : Calls P f args w Q :=
  h.mono (by rintro e w' ⟨rfl, rfl⟩; exact k)

theorem ofInt_i64 (a : Nat) (ha : a < 9223372036854775808) : (BitVec.ofInt 64 (a : Int)).toNat = a := by
  rw [BitVec.ofInt_natCast, BitVec.toNat_ofNat]; exact Nat.mod_eq_of_lt (by omega)
theorem i64_and_nat (a b : Nat) (ha : a < 9223372036854775808) (hb : b < 9223372036854775808) : bits .and .i64 (a : Int) (b : Int) = ((a &&& b : Nat) : Int) := by
  have hx : a &&& b < 2 ^ 63 := Nat.and_lt_two_pow _ (by omega)
  show IntKind.i64.wrap ((BitVec.ofInt 64 (a : Int) &&& BitVec.ofInt 64 (b : Int)).toNat : Int) = _
  rw [BitVec.toNat_and, ofInt_i64 a ha, ofInt_i64 b hb, IntKind.wrap_i64]
  omega
theorem i64_or_nat (a b : Nat) (ha : a < 9223372036854775808) (hb : b < 9223372036854775808) : bits .or .i64 (a : Int) (b : Int) = ((a ||| b : Nat) : Int) := by
  have hx : a ||| b < 2 ^ 63 := Nat.or_lt_two_pow (by omega) (by omega)
  show IntKind.i64.wrap ((BitVec.ofInt 64 (a : Int) ||| BitVec.ofInt 64 (b : Int)).toNat : Int) = _
  rw [BitVec.toNat_or, ofInt_i64 a ha, ofInt_i64 b hb, IntKind.wrap_i64]
  omega
theorem ofInt_u8 (a : Nat) (ha : a < 256) : (BitVec.ofInt 8 (a : Int)).toNat = a := by
  rw [BitVec.ofInt_natCast, BitVec.toNat_ofNat]; exact Nat.mod_eq_of_lt (by omega)
theorem u8_and_nat (a b : Nat) (ha : a < 256) (hb : b < 256) : bits .and .u8 (a : Int) (b : Int) = ((a &&& b : Nat) : Int) := by
  have hx : a &&& b < 2 ^ 8 := Nat.and_lt_two_pow _ (by omega)
  show IntKind.u8.wrap ((BitVec.ofInt 8 (a : Int) &&& BitVec.ofInt 8 (b : Int)).toNat : Int) = _
  rw [BitVec.toNat_and, ofInt_u8 a ha, ofInt_u8 b hb, IntKind.wrap_u8]
  omega
theorem u8_or_nat (a b : Nat) (ha : a < 256) (hb : b < 256) : bits .or .u8 (a : Int) (b : Int) = ((a ||| b : Nat) : Int) := by
  have hx : a ||| b < 2 ^ 8 := Nat.or_lt_two_pow (by omega) (by omega)
  show IntKind.u8.wrap ((BitVec.ofInt 8 (a : Int) ||| BitVec.ofInt 8 (b : Int)).toNat : Int) = _
  rw [BitVec.toNat_or, ofInt_u8 a ha, ofInt_u8 b hb, IntKind.wrap_u8]
  omega

/-- 'x & (2^k - 1)' -/
theorem i64_mask (x : Int) (k : Nat) (h0 : 0 ≤ x) (h1 : x < 9223372036854775808) (hk : k < 63) (m : Int) (hm : m = 2 ^ k - 1) : bits .and .i64 x m = x % 2 ^ k := by
  obtain ⟨a, rfl⟩ := Int.eq_ofNat_of_zero_le h0
  have h2 : (2 : Nat) ^ k < 2 ^ 63 := Nat.pow_lt_pow_right (by omega) hk
  have h3 : 0 < (2 : Nat) ^ k := Nat.two_pow_pos k
  obtain rfl : m = ((2 ^ k - 1 : Nat) : Int) := by rw [hm, Int.ofNat_sub h3]; simp
  rw [i64_and_nat a _ (by omega) (by omega), Nat.and_two_pow_sub_one_eq_mod]
  simp
theorem u8_mask (x : Int) (k : Nat) (h0 : 0 ≤ x) (h1 : x < 256) (hk : k < 8) (m : Int) (hm : m = 2 ^ k - 1) : bits .and .u8 x m = x % 2 ^ k := by
  obtain ⟨a, rfl⟩ := Int.eq_ofNat_of_zero_le h0
  have h2 : (2 : Nat) ^ k < 2 ^ 8 := Nat.pow_lt_pow_right (by omega) hk
  have h3 : 0 < (2 : Nat) ^ k := Nat.two_pow_pos k
  obtain rfl : m = ((2 ^ k - 1 : Nat) : Int) := by rw [hm, Int.ofNat_sub h3]; simp
  rw [u8_and_nat a _ (by omega) (by omega), Nat.and_two_pow_sub_one_eq_mod]
  simp

/-- 'x * 2^k | y', y below 2^k: the sum. -/
theorem i64_or_add (x y : Int) (k : Nat) (h0 : 0 ≤ x) (hy : 0 ≤ y) (hk : y < 2 ^ k) (hx : x * 2 ^ k + y < 9223372036854775808) : bits .or .i64 (x * 2 ^ k) y = x * 2 ^ k + y := by
  obtain ⟨a, rfl⟩ := Int.eq_ofNat_of_zero_le h0
  obtain ⟨b, rfl⟩ := Int.eq_ofNat_of_zero_le hy
  have e : ((a : Int) * 2 ^ k) = ((a * 2 ^ k : Nat) : Int) := by simp
  have hb : b < 2 ^ k := by
    have : ((2 ^ k : Nat) : Int) = (2 : Int) ^ k := by simp
    omega
  rw [e] at hx ⊢
  rw [i64_or_nat _ _ (by omega) (by omega)]
  rw [Nat.mul_comm a, ← Nat.two_pow_add_eq_or_of_lt hb]
  simp
theorem u8_or_add (x y : Int) (k : Nat) (h0 : 0 ≤ x) (hy : 0 ≤ y) (hk : y < 2 ^ k) (hx : x * 2 ^ k + y < 256) : bits .or .u8 (x * 2 ^ k) y = x * 2 ^ k + y := by
  obtain ⟨a, rfl⟩ := Int.eq_ofNat_of_zero_le h0
  obtain ⟨b, rfl⟩ := Int.eq_ofNat_of_zero_le hy
  have e : ((a : Int) * 2 ^ k) = ((a * 2 ^ k : Nat) : Int) := by simp
  have hb : b < 2 ^ k := by
    have : ((2 ^ k : Nat) : Int) = (2 : Int) ^ k := by simp
    omega
  rw [e] at hx ⊢
  rw [u8_or_nat _ _ (by omega) (by omega)]
  rw [Nat.mul_comm a, ← Nat.two_pow_add_eq_or_of_lt hb]
  simp

theorem u8_and63 (x : Int) (h0 : 0 ≤ x) (h1 : x < 256) : bits .and .u8 x 63 = x % 64 := u8_mask x 6 h0 h1 (by omega) _ rfl
theorem i64_or64 (x y : Int) (h0 : 0 ≤ x) (h1 : x < 100000000000) (h2 : 0 ≤ y) (h3 : y < 64) : bits .or .i64 (x * 64) y = x * 64 + y := by
  have := i64_or_add x y 6 h0 h2 (by omega) (by omega)
  simpa using this
end Go.Proofs.YtlcfakmbcfdgbaaGreat
namespace Go.Proofs.YtlcfakmbcfdgbaaGreat
open Go.RowKit

theorem results_tmp4 {fn : Func} {t u v x : Tmp} (h : fn.results = #[.tmp t, .tmp u, .tmp v, .tmp x]) (tmps : Array Value) (P : Program) (w : World) :
    (results fn tmps).run P w = .ok (.tuple #[tmps.getD t undef, tmps.getD u undef, tmps.getD v undef, tmps.getD x undef]) w := by simp [results, h]

/-- The results of 'follow', as Go hands them back. -/
def followV (f : Int × Int × Int × Int) : Value := .tuple #[.int .i64 f.1, .int .i64 f.2.1, .int .u8 f.2.2.1, .int .u8 f.2.2.2]

theorem followV_eq {c a b d e : Int} (h : (a, b, d, e) = Utf.follow c) : Ending.returned (.tuple #[.int .i64 a, .int .i64 b, .int .u8 d, .int .u8 e]) = .returned (followV (Utf.follow c)) := by
  rw [← h]; rfl

set_option maxHeartbeats 400000 in
theorem follow_any (c : Int) (w : World) (h0 : 0 ≤ c) (h1 : c ≤ 255) :
    Calls Tryz.prog 118 #[.int .u8 c] w fun e w' => e = .returned (followV (Utf.follow c)) ∧ w = w' := by
  have b1 : bits .and .i64 c 31 = c % 32 := i64_mask c 5 h0 (by omega) (by omega) _ rfl
  have b2 : bits .and .i64 c 15 = c % 16 := i64_mask c 4 h0 (by omega) (by omega) _ rfl
  have b3 : bits .and .i64 c 7 = c % 8 := i64_mask c 3 h0 (by omega) (by omega) _ rfl
  go_enter Tryz.func118, Tryz.ntmps118
  go_wp2
  all_goals
    refine bodyPost_ret (results_tmp4 rfl _ _ _) rfl ?_
    refine ⟨followV_eq ?_, rfl⟩
    try simp only [beq_iff_eq, beq_eq_false_iff_ne] at *
    unfold Utf.follow
    repeat (first | rw [if_pos (by omega)] | rw [if_neg (by omega)])

/-- The results of 'lead': as 'follow', but what no byte that begins has. -/
def leadV (f : Int × Int × Int × Int) : Int × Int × Int := if f.1 < 0 then (-1, 0, 0) else if f.1 = 0 then (0, 0, 0) else (f.1, f.2.2.1, f.2.2.2)
def leadT (f : Int × Int × Int) : Value := .tuple #[.int .i64 f.1, .int .u8 f.2.1, .int .u8 f.2.2]
theorem leadV_eq {c a b d : Int} (h : (a, b, d) = leadV (Utf.follow c)) : Ending.returned (.tuple #[.int .i64 a, .int .u8 b, .int .u8 d]) = .returned (leadT (leadV (Utf.follow c))) := by
  rw [← h]; rfl

set_option maxHeartbeats 400000 in
theorem lead_any (c : Int) (w : World) (h0 : 0 ≤ c) (h1 : c ≤ 255) :
    Calls Tryz.prog 113 #[.int .u8 c] w fun e w' => e = .returned (leadT (leadV (Utf.follow c))) ∧ w = w' := by
  go_enter Tryz.func113, Tryz.ntmps113
  go_wp2
  all_goals
    go_ret3
    refine ⟨leadV_eq ?_, rfl⟩
    try simp only [beq_iff_eq, beq_eq_false_iff_ne] at *
    obtain ⟨q, hq⟩ : ∃ q, q = Utf.follow c := ⟨_, rfl⟩
    rw [← hq]
    unfold Utf.follow at hq
    repeat (first | rw [if_pos (by omega)] at hq | rw [if_neg (by omega)] at hq)
    subst hq
    first | rfl | (unfold leadV; simp)
end Go.Proofs.YtlcfakmbcfdgbaaGreat
namespace Go.Proofs.YtlcfakmbcfdgbaaGreat
open Go.RowKit

def pieceV (f : Int × Int) : Value := .tuple #[.int .i64 f.1, .int .i64 f.2]
theorem pieceV_eq {a b : Int} {f : Int × Int} (h : (a, b) = f) : Ending.returned (.tuple #[.int .i64 a, .int .i64 b]) = .returned (pieceV f) := by
  rw [← h]; rfl

theorem drop_at (s : ByteArray) (k : Nat) (h : k < s.size) : s.data.toList.drop k = s[k] :: s.data.toList.drop (k + 1) := by
  rw [List.drop_eq_getElem_cons (by simpa using h)]; rfl

/-- One step of 'cont' at a byte of the text. -/
theorem cont_end {s : ByteArray} {a j k : Nat} {r n lo hi : Int} (h : s.size ≤ a + j) : Utf.cont (s.data.toList.drop (a + j)) (k + 1) r n lo hi = (-1, n) := by
  rw [List.drop_of_length_le (by simpa using h)]; rfl
theorem cont_wrong {s : ByteArray} {a j k : Nat} {r n lo hi : Int} (h : a + j < s.size) (hc : (s[a + j].toNat : Int) < lo ∨ hi < (s[a + j].toNat : Int)) : Utf.cont (s.data.toList.drop (a + j)) (k + 1) r n lo hi = (-1, n) := by
  rw [drop_at s _ h]; simp only [Utf.cont]; rw [if_pos hc]
theorem cont_step {s : ByteArray} {a j k : Nat} {r n lo hi : Int} (h : a + j < s.size) (h1 : lo ≤ (s[a + j].toNat : Int)) (h2 : (s[a + j].toNat : Int) ≤ hi) :
    Utf.cont (s.data.toList.drop (a + j)) (k + 1) r n lo hi = Utf.cont (s.data.toList.drop (a + j + 1)) k (r * 64 + (s[a + j].toNat : Int) % 64) (n + 1) 128 191 := by
  rw [drop_at s _ h]; simp only [Utf.cont]; rw [if_neg (by omega)]

set_option maxHeartbeats 1000000 in
theorem piece_any (s : ByteArray) (at_ : Int) (w : World) (h0 : 0 ≤ at_) (h1 : at_ < s.size) (hs : s.size ≤ 1000000000) :
    Calls Tryz.prog 101 #[.string s, .int .i64 at_] w fun e w' => e = .returned (pieceV (Utf.piece (s.data.toList.drop at_.toNat))) ∧ w = w' := by
  obtain ⟨a, rfl⟩ := Int.eq_ofNat_of_zero_le h0
  rw [Int.toNat_natCast]
  have ha : a < s.size := by omega
  rw [drop_at s a ha, Utf.piece_cons]
  obtain ⟨c, hc⟩ : ∃ c : Int, ((s[a].toNat : Nat) : Int) = c := ⟨_, rfl⟩
  have hc0 : 0 ≤ c := by omega
  have hc1 : c ≤ 255 := by have := Utf.byte_lt s[a]; omega
  rw [hc]
  have hf := Utf.follow_cases c (by omega) (by omega)
  have Hc := hide hc
  clear hc
  obtain ⟨m, r, lo, hi, hq⟩ : ∃ m r lo hi, Utf.follow c = (m, r, lo, hi) := ⟨_, _, _, _, rfl⟩
  rw [hq] at hf ⊢
  dsimp only at hf ⊢
  have hm0 : -1 ≤ m := by omega
  have hm3 : m ≤ 3 := by omega
  have hr0 : 0 ≤ r := by omega
  have hr1 : r ≤ 127 := by omega
  have Hq := hide hq
  clear hf hq
  obtain ⟨res, hres⟩ : ∃ res, (if m < 0 then (-1, 1) else Utf.cont (s.data.toList.drop (a + 1)) m.toNat r 1 lo hi) = res := ⟨_, rfl⟩
  rw [hres]
  have Hres := hide hres
  clear hres
  go_enter Tryz.func101, Tryz.ntmps101
  go_wp2
  go_step3
  go_wp2_with (go_at_call 118; rw [Hc.out]; refine (follow_any _ _ hc0 hc1).mono ?_; rintro e w' ⟨rfl, rfl⟩; rw [Hq.out]; unfold followV; dsimp only)
  · rw [Exit.noGoto_ret]
    go_ret2
    exact ⟨pieceV_eq (by rw [← Hres.out, if_pos (by assumption)]), rfl⟩
  · have hm : 0 ≤ m := by assumption
    obtain ⟨k, rfl⟩ := Int.eq_ofNat_of_zero_le hm
    go_step3
    go_wp2
    go_loopg [4, 5, 7, 8] (k + 1) (fun g vr vn vlo vhi wr => ∃ (j : Nat) (r' lo' hi' : Int), g = k + 1 - j ∧ j ≤ k ∧ vr = .int .i64 r' ∧ vn = .int .i64 ((j : Int) + 1) ∧ vlo = .int .u8 lo' ∧ vhi = .int .u8 hi' ∧
      Utf.cont (s.data.toList.drop (a + (j + 1))) (k - j) r' ((j : Int) + 1) lo' hi' = res ∧ 0 ≤ r' ∧ (r' ≤ 127 ∧ j = 0 ∨ r' ≤ 8191 ∧ j = 1 ∨ r' ≤ 524287 ∧ j = 2 ∨ r' ≤ 33554431 ∧ j = 3) ∧ wr = w)
    case atStart => exact ⟨0, r, lo, hi, rfl, by omega, rfl, rfl, rfl, rfl, by rw [← Hres.out, if_neg (by omega)]; rfl, hr0, .inl ⟨hr1, rfl⟩, rfl⟩
    case round =>
      obtain ⟨j, r', lo', hi', hg, hj, rfl, rfl, rfl, rfl, hcont, hr0', hr1', rfl⟩ := hrel
      have Hcont := hide hcont
      have Hr := hide hr1'
      have Hg := hide hg
      have hr2 : r' ≤ 33554431 := by omega
      clear hcont hr1' hg hr1
      by_cases hlt : j < k
      · have hr3 : r' ≤ 524287 := by have := Hr.out; omega
        by_cases hend : s.size ≤ a + (j + 1)
        · go_wp2
          rw [Exit.noGoto_ret]
          go_ret2
          exact ⟨pieceV_eq (by rw [← Hcont.out, show k - j = (k - j - 1) + 1 from by omega, cont_end hend]), rfl⟩
        · have hlt2 : a + (j + 1) < s.size := by omega
          go_wp2
          · rw [Exit.noGoto_ret]
            go_ret2
            exact ⟨pieceV_eq (by rw [← Hcont.out, show k - j = (k - j - 1) + 1 from by omega, cont_wrong hlt2 (by assumption)]), rfl⟩
          · have hin : lo' ≤ ↑s[a + (j + 1)].toNat ∧ ↑s[a + (j + 1)].toNat ≤ hi' := by assumption
            have hb := Utf.byte_lt s[a + (j + 1)]
            go_roundg (k + 1 - (j + 1))
            case measure => have := Hg.out; omega
            case rel =>
              refine ⟨j + 1, r' * 64 + (s[a + (j + 1)].toNat : Int) % 64, 128, 191, rfl, by omega, ?_, by go_num, rfl, rfl, ?_, by omega, by have := Hr.out; omega, rfl⟩
              · rw [u8_and63 _ (by omega) hb, IntWalk.wrap64_in _ (by omega), i64_or64 r' _ hr0' (by omega) (by omega) (by omega)]
              · rw [← Hcont.out, show k - j = (k - (j + 1)) + 1 from by omega, cont_step hlt2 hin.1 hin.2]
                simp
                rfl
          · go_ret2
            exact ⟨pieceV_eq (by rw [← Hcont.out, show k - j = (k - j - 1) + 1 from by omega, cont_wrong hlt2 (.inl (by assumption))]), rfl⟩
      · go_wp2
        rw [Exit.noGoto_ret]
        go_ret2
        exact ⟨pieceV_eq (by rw [← Hcont.out, show k - j = 0 from by omega]; unfold Utf.cont; rfl), rfl⟩
end Go.Proofs.YtlcfakmbcfdgbaaGreat
