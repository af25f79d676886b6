/- Plain facts on the checksum: its register is linear and loses nothing; eight steps of one bit are two of four; no change of at most 32 neighbouring bits leaves it as it was. No Go in sight. -/
namespace Go.Proofs.Ytkckmikpmjecdaa.Crc

def poly : BitVec 32 := 0xedb88320#32
/-- One step of one bit. -/
def T (r : BitVec 32) : BitVec 32 := (r >>> 1) ^^^ (if r.getLsbD 0 then poly else 0#32)

theorem T_xor (a b : BitVec 32) : T (a ^^^ b) = T a ^^^ T b := by
  unfold T
  rw [BitVec.ushiftRight_xor_distrib, BitVec.getLsbD_xor]
  cases a.getLsbD 0 <;> cases b.getLsbD 0 <;> simp
  · ac_rfl
  · ac_rfl
  · rw [show a >>> 1 ^^^ poly ^^^ (b >>> 1 ^^^ poly) = a >>> 1 ^^^ b >>> 1 ^^^ (poly ^^^ poly) by ac_rfl, BitVec.xor_self, BitVec.xor_zero]
theorem T_zero : T 0#32 = 0#32 := by decide
theorem T_even {r : BitVec 32} (h : r.getLsbD 0 = false) : T r = r >>> 1 := by
  unfold T
  rw [h]; simp
theorem T_ker {r : BitVec 32} (h : T r = 0#32) : r = 0#32 := by
  have h31 : (T r).getLsbD 31 = r.getLsbD 0 := by
    unfold T
    rw [BitVec.getLsbD_xor, BitVec.getLsbD_ushiftRight]
    have : r.getLsbD (1 + 31) = false := BitVec.getLsbD_of_ge _ _ (by omega)
    rw [this]
    cases r.getLsbD 0
    · rfl
    · decide
  have h0 : r.getLsbD 0 = false := by rw [← h31, h]; rfl
  rw [T_even h0] at h
  apply BitVec.eq_of_getLsbD_eq
  intro i hi
  rw [BitVec.getLsbD_zero]
  rcases Nat.eq_zero_or_pos i with rfl | hp
  · exact h0
  · have : (r >>> 1).getLsbD (i - 1) = false := by rw [h]; exact BitVec.getLsbD_zero
    rwa [BitVec.getLsbD_ushiftRight, show 1 + (i - 1) = i by omega] at this

/-- n steps. -/
def Tn : Nat → BitVec 32 → BitVec 32
  | 0, r => r
  | n + 1, r => Tn n (T r)
theorem Tn_xor (n : Nat) : ∀ a b, Tn n (a ^^^ b) = Tn n a ^^^ Tn n b := by
  induction n with
  | zero => intro a b; rfl
  | succ n ih => intro a b; simp only [Tn]; rw [T_xor, ih]
theorem Tn_zero (n : Nat) : Tn n 0#32 = 0#32 := by
  induction n with
  | zero => rfl
  | succ n ih => simp only [Tn]; rw [T_zero, ih]
theorem Tn_ker (n : Nat) : ∀ {r}, Tn n r = 0#32 → r = 0#32 := by
  induction n with
  | zero => intro r h; exact h
  | succ n ih => intro r h; exact T_ker (ih h)
theorem Tn_add (m n : Nat) : ∀ r, Tn (m + n) r = Tn n (Tn m r) := by
  induction m with
  | zero => intro r; rw [Nat.zero_add]; rfl
  | succ m ih => intro r; rw [show m + 1 + n = (m + n) + 1 by omega]; simp only [Tn]; exact ih _

/-- One bit into the register. -/
def bit1 (r : BitVec 32) (b : Bool) : BitVec 32 := T (r ^^^ (if b then 1#32 else 0#32))
def bits (r : BitVec 32) (l : List Bool) : BitVec 32 := l.foldl bit1 r
/-- The lowest n bits of v. -/
def low (v : BitVec 32) : Nat → List Bool
  | 0 => []
  | n + 1 => v.getLsbD 0 :: low (v >>> 1) n

theorem bit_step (r v : BitVec 32) : bit1 r (v.getLsbD 0) ^^^ (v >>> 1) = T (r ^^^ v) := by
  -- v is its lowest bit and the rest
  have e : v = (if v.getLsbD 0 then 1#32 else 0#32) ^^^ ((v >>> 1) <<< 1) := by
    apply BitVec.eq_of_getLsbD_eq
    intro i hi
    rw [BitVec.getLsbD_xor, BitVec.getLsbD_shiftLeft, BitVec.getLsbD_ushiftRight]
    rcases Nat.eq_zero_or_pos i with rfl | hp
    · cases v.getLsbD 0 <;> simp
    · have h1 : ((if v.getLsbD 0 then 1#32 else 0#32) : BitVec 32).getLsbD i = false := by
        split
        · simp; omega
        · simp
      rw [h1]
      simp [hi, show 1 + (i - 1) = i by omega]
      omega
  have h2 : T ((v >>> 1) <<< 1) = v >>> 1 := by
    rw [T_even (by simp)]
    apply BitVec.eq_of_getLsbD_eq
    intro i hi
    rw [BitVec.getLsbD_ushiftRight, BitVec.getLsbD_shiftLeft, BitVec.getLsbD_ushiftRight]
    by_cases h31 : i = 31
    · subst h31
      have : v.getLsbD (1 + 31) = false := BitVec.getLsbD_of_ge _ _ (by omega)
      rw [this]; simp
    · have h3 : 1 + i < 32 := by omega
      simp [h3]
  conv => rhs; rw [e, ← BitVec.xor_assoc, T_xor, h2]
  rfl

theorem bits_low (n : Nat) : ∀ (r v : BitVec 32), bits r (low v n) ^^^ (v >>> n) = Tn n (r ^^^ v) := by
  induction n with
  | zero => intro r v; simp [bits, low, Tn]
  | succ n ih =>
    intro r v
    have h := ih (bit1 r (v.getLsbD 0)) (v >>> 1)
    rw [bit_step, ← BitVec.shiftRight_add, Nat.add_comm 1 n] at h
    exact h

theorem bits_append (r : BitVec 32) (a b : List Bool) : bits r (a ++ b) = bits (bits r a) b := List.foldl_append ..
theorem bits_zeros (k : Nat) : ∀ r, bits r (List.replicate k false) = Tn k r := by
  induction k with
  | zero => intro r; rfl
  | succ k ih =>
    intro r
    rw [List.replicate_succ]
    show bits (bit1 r false) _ = _
    rw [ih]
    simp [bit1, Tn]

/-- A byte into the register. -/
def byte (r : BitVec 32) (c : BitVec 32) : BitVec 32 := Tn 8 (r ^^^ c)
def feed (r : BitVec 32) (l : List (BitVec 32)) : BitVec 32 := l.foldl byte r
theorem feed_append (r : BitVec 32) (a b : List (BitVec 32)) : feed r (a ++ b) = feed (feed r a) b := List.foldl_append ..
theorem byte_bits {c : BitVec 32} (h : c >>> 8 = 0#32) (r : BitVec 32) : byte r c = bits r (low c 8) := by
  have := bits_low 8 r c
  rw [h, BitVec.xor_zero] at this
  exact this.symm
theorem feed_bits (l : List (BitVec 32)) : ∀ r, (∀ c ∈ l, c >>> 8 = 0#32) → feed r l = bits r (l.flatMap fun c => low c 8) := by
  induction l with
  | nil => intro r _; rfl
  | cons c l ih =>
    intro r h
    rw [List.flatMap_cons, bits_append, ← byte_bits (h c (by simp))]
    exact ih _ (fun d hd => h d (by simp [hd]))
/-- Linear: the register behind a sum of two rows of bytes. -/
theorem feed_xor (a : List (BitVec 32)) : ∀ (b : List (BitVec 32)) (r s : BitVec 32), a.length = b.length → feed (r ^^^ s) (List.zipWith (· ^^^ ·) a b) = feed r a ^^^ feed s b := by
  induction a with
  | nil =>
    intro b r s h
    have : b = [] := List.eq_nil_of_length_eq_zero h.symm
    subst this; rfl
  | cons c a ih =>
    intro b r s h
    cases b with
    | nil => simp at h
    | cons d b =>
      show feed (byte (r ^^^ s) (c ^^^ d)) _ = feed (byte r c) a ^^^ feed (byte s d) b
      rw [← ih b _ _ (by simpa using h)]
      congr 1
      show Tn 8 _ = Tn 8 _ ^^^ Tn 8 _
      rw [← Tn_xor]
      congr 1
      ac_rfl

theorem low_congr (n : Nat) : ∀ {v w : BitVec 32}, (∀ i, i < n → v.getLsbD i = w.getLsbD i) → low v n = low w n := by
  induction n with
  | zero => intro v w _; rfl
  | succ n ih =>
    intro v w h
    simp only [low]
    rw [h 0 (by omega), ih (v := v >>> 1) (w := w >>> 1) (fun i hi => by rw [BitVec.getLsbD_ushiftRight, BitVec.getLsbD_ushiftRight]; exact h (1 + i) (by omega))]
theorem low_length (n : Nat) : ∀ v, (low v n).length = n := by
  induction n with
  | zero => intro v; rfl
  | succ n ih => intro v; simp [low, ih]
theorem low_get (n : Nat) : ∀ (v : BitVec 32) (i : Nat), i < n → (low v n)[i]? = some (v.getLsbD i) := by
  induction n with
  | zero => intro v i h; omega
  | succ n ih =>
    intro v i h
    cases i with
    | zero => rfl
    | succ i =>
      simp only [low, List.getElem?_cons_succ]
      rw [ih _ _ (by omega), BitVec.getLsbD_ushiftRight, Nat.add_comm 1 i]
theorem ff_low : ∀ i, i < 8 → (0xff#32).getLsbD i = true := by decide
theorem ff_high : ∀ i, i < 32 → (0xff#32).getLsbD (8 + i) = false := by decide
theorem byte_part (r w : BitVec 32) : byte r (w &&& 0xff#32) ^^^ (w >>> 8) = Tn 8 (r ^^^ w) := by
  rw [byte_bits (c := w &&& 0xff#32) (by
    apply BitVec.eq_of_getLsbD_eq
    intro i hi
    rw [BitVec.getLsbD_ushiftRight, BitVec.getLsbD_and, BitVec.getLsbD_zero, ff_high i hi, Bool.and_false]) r, ← bits_low 8 r w]
  congr 2
  exact low_congr 8 (fun i hi => by rw [BitVec.getLsbD_and, ff_low i hi, Bool.and_true])

/-- Four bytes, the lowest first, bring the register down to nothing just if they are the register. -/
theorem feed_word (r v : BitVec 32) : feed r [v &&& 0xff#32, (v >>> 8) &&& 0xff#32, (v >>> 16) &&& 0xff#32, (v >>> 24) &&& 0xff#32] = Tn 32 (r ^^^ v) := by
  have e32 : Tn 32 (r ^^^ v) = Tn (8 + (8 + (8 + 8))) (r ^^^ v) := rfl
  rw [e32, Tn_add, Tn_add, Tn_add, ← byte_part r v, ← byte_part _ (v >>> 8), ← byte_part _ (v >>> 8 >>> 8), ← byte_part _ (v >>> 8 >>> 8 >>> 8)]
  simp only [← BitVec.shiftRight_add]
  have h : v >>> (8 + 8 + 8 + 8) = 0#32 := by
    apply BitVec.eq_of_getLsbD_eq
    intro i hi
    rw [BitVec.getLsbD_ushiftRight, BitVec.getLsbD_zero]
    exact BitVec.getLsbD_of_ge _ _ (by omega)
  rw [h, BitVec.xor_zero]
  rfl

/-- A row of bits of which at most 32 neighbours are set, that of v: the register comes to nothing just if v is nothing. -/
theorem bits_window (k m : Nat) (v : BitVec 32) : bits 0#32 (List.replicate k false ++ (low v 32 ++ List.replicate m false)) = 0#32 ↔ v = 0#32 := by
  rw [bits_append, bits_append, bits_zeros, bits_zeros, Tn_zero]
  have h := bits_low 32 0#32 v
  have h0 : v >>> 32 = 0#32 := by
    apply BitVec.eq_of_getLsbD_eq
    intro i hi
    rw [BitVec.getLsbD_ushiftRight, BitVec.getLsbD_zero]
    exact BitVec.getLsbD_of_ge _ _ (by omega)
  rw [h0, BitVec.xor_zero, BitVec.zero_xor] at h
  rw [h]
  constructor
  · intro h; exact Tn_ker _ (Tn_ker _ h)
  · rintro rfl; rw [Tn_zero, Tn_zero]

/-! ### Four bits at a time -/
def tab : List (BitVec 32) := [0x00000000#32, 0x1db71064#32, 0x3b6e20c8#32, 0x26d930ac#32, 0x76dc4190#32, 0x6b6b51f4#32, 0x4db26158#32, 0x5005713c#32,
  0xedb88320#32, 0xf00f9344#32, 0xd6d6a3e8#32, 0xcb61b38c#32, 0x9b64c2b0#32, 0x86d3d2d4#32, 0xa00ae278#32, 0xbdbdf21c#32]
theorem tab_ok : ∀ i, i < 16 → Tn 4 (BitVec.ofNat 32 i) = tab.getD i 0#32 := by decide
theorem nib (r : BitVec 32) : (r >>> 4) ^^^ tab.getD (r &&& 15#32).toNat 0#32 = Tn 4 r := by
  have hlt : (r &&& 15#32).toNat < 16 := by
    rw [BitVec.toNat_and]
    exact Nat.lt_of_le_of_lt Nat.and_le_right (by decide)
  rw [← tab_ok _ hlt, BitVec.ofNat_toNat, BitVec.setWidth_eq]
  have e : r = (r &&& 15#32) ^^^ ((r >>> 4) <<< 4) := by
    apply BitVec.eq_of_getLsbD_eq
    intro i hi
    rw [BitVec.getLsbD_xor, BitVec.getLsbD_and, BitVec.getLsbD_shiftLeft, BitVec.getLsbD_ushiftRight]
    by_cases h : i < 4
    · have : (15#32).getLsbD i = true := by
        have : ∀ i, i < 4 → (15#32).getLsbD i = true := by decide
        exact this i h
      simp [this, h]
    · have : (15#32).getLsbD i = false := by
        have : ∀ j, j < 32 → (15#32).getLsbD (4 + j) = false := by decide
        have := this (i - 4) (by omega)
        rwa [show 4 + (i - 4) = i by omega] at this
      rw [this, Bool.and_false, Bool.false_xor]
      simp only [hi, h, decide_true, decide_false, Bool.not_false, Bool.true_and]
      rw [show 4 + (i - 4) = i by omega]
  have h4 : Tn 4 ((r >>> 4) <<< 4) = r >>> 4 := by
    have := bits_low 4 0#32 ((r >>> 4) <<< 4)
    have hl : low ((r >>> 4) <<< 4) 4 = List.replicate 4 false := by
      rw [low_congr 4 (w := 0#32) (fun i hi => by rw [BitVec.getLsbD_shiftLeft, BitVec.getLsbD_zero]; simp [hi])]
      decide
    rw [hl, bits_zeros, Tn_zero, BitVec.zero_xor, BitVec.zero_xor] at this
    rw [← this]
    apply BitVec.eq_of_getLsbD_eq
    intro i hi
    rw [BitVec.getLsbD_ushiftRight, BitVec.getLsbD_ushiftRight, BitVec.getLsbD_shiftLeft, BitVec.getLsbD_ushiftRight]
    by_cases h : i < 28
    · simp [show 4 + i < 32 by omega]
    · have : r.getLsbD (4 + i) = false := BitVec.getLsbD_of_ge _ _ (by omega)
      simp [this]
  conv => rhs; rw [e, Tn_xor, h4]
  exact BitVec.xor_comm ..

end Go.Proofs.Ytkckmikpmjecdaa.Crc
