/-
  BITS THAT ARE TURNED: a sum over 16 bytes tells one and two turned bits. Plain.
-/
import Derived.Test.YtdeaollkgckppaaRefM
namespace Go.Proofs
open Go Go.Ev
set_option linter.unusedSimpArgs false
set_option linter.unusedVariables false
set_option maxRecDepth 100000

/-! ### the sum is linear -/
def itN : Nat → Nat → Nat
  | 0, c => c
  | k + 1, c => itN k (bitSN c)
theorem itS_N : ∀ (k : Nat) {c : Nat}, c < 2 ^ 32 → itS k (c : Int) = ((itN k c : Nat) : Int)
  | 0, _, _ => rfl
  | k + 1, c, h => by
    show itS k (bitS _) = ((itN k (bitSN c) : Nat) : Int)
    rw [bitS_N h]
    exact itS_N k (bitSN_lt h)
theorem itN_lt : ∀ (k : Nat) {c : Nat}, c < 2 ^ 32 → itN k c < 2 ^ 32
  | 0, _, h => h
  | k + 1, _, h => itN_lt k (bitSN_lt h)
theorem bitSN_lin (a b : Nat) : bitSN (a ^^^ b) = bitSN a ^^^ bitSN b := by
  unfold bitSN
  have h := xor_mod2 a b
  rw [xor_div2]
  by_cases h1 : a % 2 = 1 <;> by_cases h2 : b % 2 = 1
  · rw [if_neg (fun e => by have := h.1 e; omega), if_pos h1, if_pos h2]
    apply Nat.eq_of_testBit_eq
    intro i
    simp only [Nat.testBit_xor]
    cases Nat.testBit (a / 2) i <;> cases Nat.testBit (b / 2) i <;> cases Nat.testBit polyN i <;> rfl
  · rw [if_pos (h.2 (Or.inl ⟨h1, h2⟩)), if_pos h1, if_neg h2]
    apply Nat.eq_of_testBit_eq
    intro i
    simp only [Nat.testBit_xor]
    cases Nat.testBit (a / 2) i <;> cases Nat.testBit (b / 2) i <;> cases Nat.testBit polyN i <;> rfl
  · rw [if_pos (h.2 (Or.inr ⟨h1, h2⟩)), if_neg h1, if_pos h2, Nat.xor_assoc]
  · rw [if_neg (fun e => by have := h.1 e; omega), if_neg h1, if_neg h2]
theorem itN_lin : ∀ (k a b : Nat), itN k (a ^^^ b) = itN k a ^^^ itN k b
  | 0, _, _ => rfl
  | k + 1, a, b => by
    show itN k (bitSN (a ^^^ b)) = itN k (bitSN a) ^^^ itN k (bitSN b)
    rw [bitSN_lin, itN_lin k]
def foldN (c : Nat) (l : List Nat) : Nat := l.foldl (fun c b => itN 8 (c ^^^ b)) c
theorem foldN_lin : ∀ (l e : List Nat) (c d : Nat), l.length = e.length → foldN (c ^^^ d) (List.zipWith (· ^^^ ·) l e) = foldN c l ^^^ foldN d e
  | [], [], _, _, _ => rfl
  | [], _ :: _, _, _, h => by cases h
  | _ :: _, [], _, _, h => by cases h
  | x :: l, y :: e, c, d, h => by
    show foldN (itN 8 ((c ^^^ d) ^^^ (x ^^^ y))) (List.zipWith (· ^^^ ·) l e) = foldN (itN 8 (c ^^^ x)) l ^^^ foldN (itN 8 (d ^^^ y)) e
    have h : l.length = e.length := Nat.succ.inj h
    rw [← foldN_lin l e _ _ h, ← itN_lin]
    congr 2
    apply Nat.eq_of_testBit_eq
    intro i
    simp only [Nat.testBit_xor]
    cases Nat.testBit c i <;> cases Nat.testBit d i <;> cases Nat.testBit x i <;> cases Nat.testBit y i <;> rfl
theorem foldS_N : ∀ (l : List Nat) {c : Nat}, c < 2 ^ 32 → (∀ x ∈ l, x < 256) → foldS (c : Int) (l.map fun (n : Nat) => (n : Int)) = ((foldN c l : Nat) : Int)
  | [], _, _, _ => rfl
  | x :: l, c, hc, hl => by
    have hx := hl x (by simp)
    show foldS (stepS (ibits .xor .u32 (c : Int) (IntKind.wrap .u32 (x : Int)))) (l.map _) = ((foldN (itN 8 (c ^^^ x)) l : Nat) : Int)
    have e : stepS (ibits .xor .u32 (c : Int) (IntKind.wrap .u32 (x : Int))) = ((itN 8 (c ^^^ x) : Nat) : Int) := by
      rw [wrapU32 (by omega) (by omega), xor_u32 hc (by omega)]
      exact itS_N 8 (xor_lt32 hc (by omega))
    rw [e]
    exact foldS_N l (itN_lt 8 (xor_lt32 hc (by omega))) fun y hy => hl y (by simp [hy])

theorem foldN_lt : ∀ (l : List Nat) {c : Nat}, c < 2 ^ 32 → (∀ x ∈ l, x < 256) → foldN c l < 2 ^ 32
  | [], _, hc, _ => hc
  | x :: l, c, hc, hl => by
    have hx := hl x (by simp)
    show foldN (itN 8 (c ^^^ x)) l < 2 ^ 32
    exact foldN_lt l (itN_lt 8 (xor_lt32 hc (by omega))) fun y hy => hl y (by simp [hy])

/-! ### a bit -/
def unitE (b : Nat) : List Nat := (List.range 16).map fun k => if k = b / 8 then 2 ^ (b % 8) else 0
def flipF (f : Sec) (b : Nat) : Sec := fun k => if k.val = b / 8 then (((f k).toNat ^^^ 2 ^ (b % 8) : Nat) : Int) else f k
def synd (b : Nat) : Nat := foldN 0 (unitE b)
def syndL : List Nat := [2926088593, 2275419491, 3560000647, 1930665807, 3861331614, 390036349, 780072698, 1560145396, 3120290792, 2827399569, 2323408227, 3481914503, 1147313999, 2294627998, 3405478781, 1317531835, 2635063670, 3782132909, 430739227, 861478454, 1722956908, 3445913816, 1102706673, 2205413346, 3717650821, 1616688459, 3233376918, 1510200173, 3020400346, 3011398645, 3180171691, 2691310871, 2611301487, 3963330207, 50740095, 101480190, 202960380, 405920760, 811841520, 1623683040, 3247366080, 1483520449, 2967040898, 3133399365, 2935407819, 2258407383, 3595049455, 2011248031, 4022496062, 83218493, 166436986, 332873972, 665747944, 1331495888, 2662991776, 3859089665, 393942083, 787884166, 1575768332, 3151536664, 2898281073, 2196865699, 3734110983, 1716846671, 3433693342, 1109723005, 2219446010, 3555007413, 2092642603, 4185285206, 698204909, 1396409818, 2792819636, 2543784233, 4098827283, 871321191, 1742642382, 3485284764, 1141601657, 2283203314, 3411858341, 1304994059, 2609988118, 3964895853, 64357019, 128714038, 257428076, 514856152, 1029712304, 2059424608, 4118849216, 812665793, 1625331586, 3250663172, 1492342857, 2984685714, 3099354981, 2852767883, 2405603159, 3316918511, 1343838111, 2687676222, 2601801789, 3982079547, 29518391, 59036782, 118073564, 236147128, 472294256, 944588512, 1889177024, 3778354048, 421212481, 842424962, 1684849924, 3369699848, 1254232657, 2508465314, 4034481925, 998479947, 1996959894, 3993919788, 124634137, 249268274, 498536548, 997073096, 1994146192, 3988292384]
theorem synd_L : (List.range 128).map synd = syndL := by decide +kernel
theorem syndL_nodup : (0 :: syndL).Nodup := by decide +kernel
theorem synd_ne {b : Nat} (h : b < 128) : synd b ≠ 0 := fun e => by
  have hm : synd b ∈ syndL := by rw [← synd_L]; exact List.mem_map.2 ⟨b, List.mem_range.2 h, rfl⟩
  rw [e] at hm
  exact (List.nodup_cons.1 syndL_nodup).1 hm
theorem synd_inj {a b : Nat} (ha : a < 128) (hb : b < 128) (h : synd a = synd b) : a = b := by
  have hn := (List.nodup_cons.1 syndL_nodup).2
  rw [← synd_L] at hn
  have h1 : ((List.range 128).map synd)[a]? = some (synd a) := by rw [List.getElem?_map, List.getElem?_range ha]; rfl
  have h2 : ((List.range 128).map synd)[b]? = some (synd a) := by rw [List.getElem?_map, List.getElem?_range hb, h]; rfl
  exact nodup_at hn h1 h2
def secN (f : Sec) : List Nat := (secB f).map Int.toNat
theorem secN_len (f : Sec) : (secN f).length = 16 := rfl
theorem secN_at (f : Sec) {i : Nat} (h : i < 16) : (secN f)[i]? = some (f ⟨i, h⟩).toNat := by
  unfold secN
  rw [List.getElem?_map, get_secB f h]; rfl
theorem secN_lt {f : Sec} (h : SecOk f) : ∀ x ∈ secN f, x < 256 := by
  intro x hx
  unfold secN at hx
  obtain ⟨y, hy, rfl⟩ := List.mem_map.1 hx
  obtain ⟨i, hi⟩ := List.getElem?_of_mem hy
  have hl : i < 16 := (List.getElem?_eq_some_iff.1 hi).1
  rw [get_secB f hl] at hi
  have := h ⟨i, hl⟩
  rw [← Option.some.inj hi]
  omega
theorem secN_back {f : Sec} (h : SecOk f) : (secN f).map (fun (n : Nat) => (n : Int)) = secB f := by
  apply List.ext_getElem?
  intro i
  by_cases hi : i < 16
  · rw [List.getElem?_map, secN_at f hi, get_secB f hi]
    have := h ⟨i, hi⟩
    show some (((f ⟨i, hi⟩).toNat : Nat) : Int) = _
    rw [show (((f ⟨i, hi⟩).toNat : Nat) : Int) = f ⟨i, hi⟩ by omega]
  · rw [List.getElem?_eq_none (by rw [List.length_map, secN_len]; omega), List.getElem?_eq_none (by show 16 ≤ i; omega)]
theorem pow8_lt (b : Nat) : 2 ^ (b % 8) < 256 := Nat.pow_lt_pow_right (by decide) (show b % 8 < 8 from Nat.mod_lt _ (by decide))
theorem flip_ok {f : Sec} (h : SecOk f) (b : Nat) : SecOk (flipF f b) := fun k => by
  unfold flipF
  have hk := h k
  split
  · have := xor_lt8 (a := (f k).toNat) (by omega) (pow8_lt b)
    omega
  · exact hk
theorem flip_self {f : Sec} (h : SecOk f) (b : Nat) : flipF (flipF f b) b = f := by
  funext k
  unfold flipF
  have hk := h k
  by_cases e : k.val = b / 8
  · rw [if_pos e, if_pos e, Int.toNat_natCast, Nat.xor_assoc, Nat.xor_self, Nat.xor_zero]
    omega
  · rw [if_neg e, if_neg e]
theorem secN_flip (f : Sec) (b : Nat) : secN (flipF f b) = List.zipWith (· ^^^ ·) (secN f) (unitE b) := by
  apply List.ext_getElem?
  intro i
  by_cases hi : i < 16
  · rw [secN_at _ hi, List.getElem?_zipWith, secN_at f hi]
    unfold unitE
    rw [List.getElem?_map, List.getElem?_range hi]
    show some (flipF f b ⟨i, hi⟩).toNat = some ((f ⟨i, hi⟩).toNat ^^^ (if i = b / 8 then 2 ^ (b % 8) else 0))
    unfold flipF
    by_cases e : i = b / 8
    · rw [if_pos (show (⟨i, hi⟩ : Fin 16).val = b / 8 from e), if_pos e, Int.toNat_natCast]
    · rw [if_neg (show ¬ (⟨i, hi⟩ : Fin 16).val = b / 8 from e), if_neg e, Nat.xor_zero]
  · rw [List.getElem?_eq_none (by rw [secN_len]; omega), List.getElem?_eq_none (by simp [unitE, secN_len]; omega)]
theorem unitE_len (b : Nat) : (unitE b).length = 16 := by simp [unitE]
theorem foldN_flip (n : Nat) (f : Sec) (b : Nat) : foldN n (secN (flipF f b)) = foldN n (secN f) ^^^ synd b := by
  rw [secN_flip]
  have := foldN_lin (secN f) (unitE b) n 0 (by rw [secN_len, unitE_len])
  rw [Nat.xor_zero] at this
  exact this
theorem By_atBs (a : Int) : By (atBs a) := by
  intro x hx
  have h : ∀ k, 0 ≤ atB a k ∧ atB a k ≤ 255 := fun k => by
    unfold atB
    generalize ishr .i64 a (56 - 8 * (k : Int)) = y
    have h1 : IntKind.wrap .u8 y = y % 256 := rfl
    rw [h1]
    omega
  unfold atBs at hx
  simp only [List.mem_cons, List.not_mem_nil, or_false] at hx
  rcases hx with rfl | rfl | rfl | rfl | rfl | rfl | rfl | rfl <;> exact h _
/-- the sum of a sector, as a number -/
theorem sumS_N (a : Int) : ∃ n : Nat, n < 2 ^ 32 ∧ ∀ f : Sec, SecOk f → sumS a f = ((4294967295 ^^^ foldN n (secN f) : Nat) : Int) ∧ foldN n (secN f) < 2 ^ 32 := by
  have hall : allS = ((4294967295 : Nat) : Int) := by decide
  have h0 : ibits .xor .u32 allS 0 = ((4294967295 : Nat) : Int) := by decide
  have hr := foldS_lt (atBs a) (ibits .xor .u32 allS 0) (by rw [h0]; decide) (By_atBs a)
  refine ⟨(foldS (ibits .xor .u32 allS 0) (atBs a)).toNat, by omega, fun f hf => ?_⟩
  have e : (((foldS (ibits .xor .u32 allS 0) (atBs a)).toNat : Nat) : Int) = foldS (ibits .xor .u32 allS 0) (atBs a) := by omega
  have hfold : foldS (ibits .xor .u32 allS 0) (atBs a ++ secB f) = ((foldN (foldS (ibits .xor .u32 allS 0) (atBs a)).toNat (secN f) : Nat) : Int) := by
    rw [← foldS_N (secN f) (by omega) (secN_lt hf), secN_back hf, e]
    unfold foldS
    rw [List.foldl_append]
  have hlt : foldN (foldS (ibits .xor .u32 allS 0) (atBs a)).toNat (secN f) < 2 ^ 32 := foldN_lt (secN f) (by omega) (secN_lt hf)
  refine ⟨?_, hlt⟩
  unfold sumS crcS
  rw [hfold]
  generalize foldN (foldS (ibits .xor .u32 allS 0) (atBs a)).toNat (secN f) = x at *
  rw [hall, xor_u32 (by decide) hlt]
theorem xor_inj {a x y : Nat} (h : a ^^^ x = a ^^^ y) : x = y := by
  rw [← xor_back a x, h, xor_back]
theorem turn1 {f : Sec} (hf : SecOk f) (a : Int) {b : Nat} (hb : b < 128) : sumS a (flipF f b) ≠ sumS a f := fun h => by
  obtain ⟨n, _, hn⟩ := sumS_N a
  rw [(hn _ (flip_ok hf b)).1, (hn f hf).1] at h
  have h := xor_inj (Int.ofNat.inj h)
  rw [foldN_flip] at h
  have := xor_inj (a := foldN n (secN f)) (x := synd b) (y := 0) (by rw [h, Nat.xor_zero])
  exact synd_ne hb this
theorem turn2 {f : Sec} (hf : SecOk f) (a : Int) {b c : Nat} (hb : b < 128) (hc : c < 128) (hne : b ≠ c) : sumS a (flipF (flipF f b) c) ≠ sumS a f := fun h => by
  obtain ⟨n, _, hn⟩ := sumS_N a
  rw [(hn _ (flip_ok (flip_ok hf b) c)).1, (hn f hf).1] at h
  have h := xor_inj (Int.ofNat.inj h)
  rw [foldN_flip, foldN_flip, Nat.xor_assoc] at h
  have h := xor_inj (a := foldN n (secN f)) (x := synd b ^^^ synd c) (y := 0) (by rw [h, Nat.xor_zero])
  have : synd b = synd c := by
    have h2 := xor_back (synd b) (synd c)
    rw [h, Nat.xor_zero] at h2
    exact h2
  exact hne (synd_inj hb hc this)
/-- bits that are turned one behind the other -/
def flips (f : Sec) (l : List Nat) : Sec := l.foldl flipF f
theorem flips_ok {f : Sec} (hf : SecOk f) : ∀ l : List Nat, SecOk (flips f l)
  | [] => hf
  | b :: l => flips_ok (flip_ok hf b) l
/-- at most two of them: nothing is turned, or the sum tells it -/
theorem flips_two {f : Sec} (hf : SecOk f) (a : Int) {l : List Nat} (hl : l.length ≤ 2) (hb : ∀ b ∈ l, b < 128) : flips f l = f ∨ sumS a (flips f l) ≠ sumS a f := by
  match l, hl, hb with
  | [], _, _ => exact Or.inl rfl
  | [b], _, hb => exact Or.inr (turn1 hf a (hb b (by simp)))
  | [b, c], _, hb =>
    by_cases e : b = c
    · subst e; exact Or.inl (flip_self hf b)
    · exact Or.inr (turn2 hf a (hb b (by simp)) (hb c (by simp)) e)
end Go.Proofs
