/- Wheel, plain: names with times in order; the ring of two times. No condition. -/
import Derived.WalkKit
import Derived.Test.YtaefbibkkkglnaaProg
import Derived.Test.YtaefbibkkkglnaaWWords
import Derived.Laws.Bits64
import Derived.Deep.QuietTactic
import Derived.BigQuiet
import Derived.Deep.LoopGhost
import Derived.Outline
import Derived.StillTailTactics
import Derived.Deep.RegionHeld3
import Derived.IntWalk
import Derived.Maps.RangeWalk
namespace Go.Proofs.Ytaefbibkkkglnaa.Wh
open Go
set_option linter.unusedVariables false
set_option linter.unusedSimpArgs false

/-! ### Bytes in order -/
theorem bl_irrefl : ∀ a : List UInt8, Op.bytesLess a a = false
  | [] => rfl
  | x :: a => by simp [Op.bytesLess, bl_irrefl a]
theorem bl_total : ∀ a b : List UInt8, a ≠ b → Op.bytesLess a b = true ∨ Op.bytesLess b a = true
  | [], [], h => absurd rfl h
  | [], _ :: _, _ => .inl rfl
  | _ :: _, [], _ => .inr rfl
  | x :: a, y :: b, h => by
    by_cases e : x = y
    · subst e
      have := bl_total a b (fun e => h (by rw [e]))
      simpa [Op.bytesLess] using this
    · have : x.toNat ≠ y.toNat := fun q => e (UInt8.toNat_inj.1 q)
      rcases Nat.lt_or_gt_of_ne this with h1 | h1
      · exact .inl (by simp [Op.bytesLess, UInt8.lt_iff_toNat_lt.2 h1])
      · exact .inr (by simp [Op.bytesLess, UInt8.lt_iff_toNat_lt.2 h1])
theorem bl_trans : ∀ a b c : List UInt8, Op.bytesLess a b = true → Op.bytesLess b c = true → Op.bytesLess a c = true
  | _, [], _, h, _ => by
    rename_i x _
    cases x <;> simp [Op.bytesLess] at h
  | _, _ :: _, [], _, h => by simp [Op.bytesLess] at h
  | [], _ :: _, _ :: _, _, _ => rfl
  | x :: a, y :: b, z :: c, h1, h2 => by
    simp only [Op.bytesLess, Bool.or_eq_true, decide_eq_true_eq, Bool.and_eq_true, beq_iff_eq] at *
    rcases h1 with h1 | ⟨rfl, h1⟩
    · rcases h2 with h2 | ⟨rfl, h2⟩
      · left
        rw [UInt8.lt_iff_toNat_lt] at *
        omega
      · exact .inl h1
    · rcases h2 with h2 | ⟨rfl, h2⟩
      · exact .inl h2
      · exact .inr ⟨rfl, bl_trans a b c h1 h2⟩
theorem str_inj {a b : ByteArray} (h : a.toList = b.toList) : a = b := by
  rw [ByteArray.toList_eq, ByteArray.toList_eq] at h
  cases a; cases b
  simpa using h

/-! ### Entries: a name and its time, in order of time and name -/
abbrev E := ByteArray × Int
def lt (e f : E) : Bool := decide (e.2 < f.2) || (e.2 == f.2 && Op.bytesLess e.1.toList f.1.toList)
theorem lt_irrefl (e : E) : lt e e = false := by simp [lt, bl_irrefl]
theorem lt_trans {e f g : E} (h1 : lt e f = true) (h2 : lt f g = true) : lt e g = true := by
  simp only [lt, Bool.or_eq_true, decide_eq_true_eq, Bool.and_eq_true, beq_iff_eq] at *
  rcases h1 with h1 | ⟨e1, h1⟩
  · rcases h2 with h2 | ⟨e2, h2⟩ <;> exact .inl (by omega)
  · rcases h2 with h2 | ⟨e2, h2⟩
    · exact .inl (by omega)
    · exact .inr ⟨by omega, bl_trans _ _ _ h1 h2⟩
theorem lt_total {e f : E} (h : e ≠ f) : lt e f = true ∨ lt f e = true := by
  simp only [lt, Bool.or_eq_true, decide_eq_true_eq, Bool.and_eq_true, beq_iff_eq]
  rcases Int.lt_trichotomy e.2 f.2 with h1 | h1 | h1
  · exact .inl (.inl h1)
  · have hne : e.1.toList ≠ f.1.toList := fun q => h (Prod.ext (str_inj q) h1)
    rcases bl_total _ _ hne with h2 | h2
    · exact .inl (.inr ⟨h1, h2⟩)
    · exact .inr (.inr ⟨h1.symm, h2⟩)
  · exact .inr (.inl h1)
theorem lt_asymm {e f : E} (h : lt e f = true) : lt f e = false := by
  cases h2 : lt f e
  · rfl
  · have := lt_trans h h2
    rw [lt_irrefl] at this
    cases this

def Sorted (l : List E) : Prop := l.Pairwise fun e f => lt e f = true
theorem sorted_ext : ∀ {l l' : List E}, Sorted l → Sorted l' → l.Perm l' → l = l'
  | [], [], _, _, _ => rfl
  | [], _ :: _, _, _, h => by simp at h
  | _ :: _, [], _, _, h => by simp at h
  | x :: l, y :: l', h1, h2, h => by
    obtain ⟨a1, a2⟩ := List.pairwise_cons.1 h1
    obtain ⟨b1, b2⟩ := List.pairwise_cons.1 h2
    have e : x = y := by
      have m1 : x ∈ y :: l' := h.mem_iff.1 (by simp)
      have m2 : y ∈ x :: l := h.mem_iff.2 (by simp)
      rcases List.mem_cons.1 m1 with q | q
      · exact q
      · rcases List.mem_cons.1 m2 with r | r
        · exact r.symm
        · have c1 := a1 y r
          have c2 := b1 x q
          rw [lt_asymm c1] at c2
          cases c2
    subst e
    rw [sorted_ext a2 b2 (List.Perm.cons_inv h)]

/-- An entry put in its place. -/
def putF (e : E) (l : List E) : List E := l.takeWhile (fun f => lt f e) ++ e :: l.dropWhile (fun f => lt f e)
theorem putF_perm (e : E) (l : List E) : (putF e l).Perm (e :: l) := by
  unfold putF
  refine List.perm_middle.trans ?_
  rw [List.takeWhile_append_dropWhile]
theorem take_lt (e : E) : ∀ l : List E, ∀ f ∈ l.takeWhile (fun f => lt f e), lt f e = true := fun l f hf => by
  induction l with
  | nil => simp at hf
  | cons x l ih =>
    rw [List.takeWhile_cons] at hf
    split at hf
    · rcases List.mem_cons.1 hf with rfl | hf
      · assumption
      · exact ih hf
    · simp at hf
theorem drop_ge (e : E) : ∀ l : List E, Sorted l → (∀ f ∈ l, f ≠ e) → ∀ f ∈ l.dropWhile (fun f => lt f e), lt e f = true := fun l hs hn f hf => by
  induction l with
  | nil => simp at hf
  | cons x l ih =>
    obtain ⟨a1, a2⟩ := List.pairwise_cons.1 hs
    rw [List.dropWhile_cons] at hf
    split at hf
    · exact ih a2 (fun f hf => hn f (by simp [hf])) hf
    · rename_i hx
      have hex : lt e x = true := by
        rcases lt_total (hn x (by simp)) with h | h
        · exact absurd h hx
        · exact h
      rcases List.mem_cons.1 hf with rfl | hf
      · exact hex
      · exact lt_trans hex (a1 f hf)
theorem putF_sorted {e : E} {l : List E} (hs : Sorted l) (hn : ∀ f ∈ l, f ≠ e) : Sorted (putF e l) := by
  unfold putF Sorted
  rw [List.pairwise_append]
  refine ⟨hs.sublist (List.takeWhile_sublist _), List.pairwise_cons.2 ⟨drop_ge e l hs hn, hs.sublist (List.dropWhile_sublist _)⟩, fun a ha b hb => ?_⟩
  have h1 := take_lt e l a ha
  rcases List.mem_cons.1 hb with rfl | hb
  · exact h1
  · exact lt_trans h1 (drop_ge e l hs hn b hb)

/-! ### Rings -/
def lvl (x : Nat) : Nat := if h : x = 0 then 0 else lvl (x / 64) + 1
termination_by x
decreasing_by omega
theorem lvl_zero : lvl 0 = 0 := by unfold lvl; simp
theorem lvl_pos {x : Nat} (h : x ≠ 0) : lvl x = lvl (x / 64) + 1 := by rw [lvl]; simp [h]
theorem lvl_le : ∀ (r x : Nat), lvl x ≤ r ↔ x / 64 ^ r = 0
  | 0, x => by
    by_cases h : x = 0
    · subst h; simp [lvl_zero]
    · rw [lvl_pos h]; simp [h]
  | r + 1, x => by
    by_cases h : x = 0
    · subst h; simp [lvl_zero]
    · rw [lvl_pos h, Nat.pow_succ, Nat.mul_comm, ← Nat.div_div_eq_div_mul, ← lvl_le r (x / 64)]
      omega
def ring (a b : Nat) : Nat := lvl ((a ^^^ b) / 64)
theorem ring_le (a b r : Nat) : ring a b ≤ r ↔ a / 64 ^ (r + 1) = b / 64 ^ (r + 1) := by
  unfold ring
  rw [lvl_le, Nat.div_div_eq_div_mul, Nat.mul_comm, ← Nat.pow_succ]
  have e : (64 : Nat) ^ (r + 1) = 2 ^ (6 * (r + 1)) := by rw [Nat.pow_mul]
  rw [e, ← Nat.shiftRight_eq_div_pow, ← Nat.shiftRight_eq_div_pow, ← Nat.shiftRight_eq_div_pow, Nat.shiftRight_xor_distrib]
  constructor
  · intro h
    have h' := congrArg (· ^^^ b >>> (6 * (r + 1))) h
    simpa [Nat.xor_assoc] using h'
  · intro h; rw [h]; exact Nat.xor_self _
theorem ring_comm (a b : Nat) : ring a b = ring b a := by unfold ring; rw [Nat.xor_comm]
theorem ring_eq {a b r : Nat} (h1 : a / 64 ^ (r + 1) = b / 64 ^ (r + 1)) (h2 : r = 0 ∨ a / 64 ^ r ≠ b / 64 ^ r) : ring a b = r := by
  have h := (ring_le a b r).2 h1
  rcases h2 with rfl | h2
  · omega
  · rcases Nat.lt_or_ge (ring a b) r with h3 | h3
    · obtain ⟨q, rfl⟩ : ∃ q, r = q + 1 := ⟨r - 1, by omega⟩
      exact absurd ((ring_le a b q).1 (by omega)) h2
    · omega
theorem ring_up {a b : Nat} : a / 64 ^ (ring a b + 1) = b / 64 ^ (ring a b + 1) := (ring_le a b _).1 (Nat.le_refl _)
theorem ring_ne {a b r : Nat} (h : r < ring a b) : a / 64 ^ (r + 1) ≠ b / 64 ^ (r + 1) := fun e => by
  have := (ring_le a b r).2 e
  omega
theorem div_more {a b r s : Nat} (h : a / 64 ^ r = b / 64 ^ r) (hs : r ≤ s) : a / 64 ^ s = b / 64 ^ s := by
  obtain ⟨d, rfl⟩ : ∃ d, s = r + d := ⟨s - r, by omega⟩
  rw [Nat.pow_add, ← Nat.div_div_eq_div_mul, ← Nat.div_div_eq_div_mul, h]
theorem lt_of_div {a b k : Nat} (h : a / k < b / k) : a < b := by
  rcases Nat.lt_or_ge a b with h1 | h1
  · exact h1
  · have := Nat.div_le_div_right (c := k) h1
    omega
theorem ring_lt {a b : Nat} (ha : a ≤ 1099511627776) (hb : b ≤ 1099511627776) : ring a b < 7 := by
  have : ring a b ≤ 6 := by
    rw [ring_le, Nat.div_eq_of_lt (by omega), Nat.div_eq_of_lt (by omega)]
  omega
def dig (r a : Nat) : Nat := a / 64 ^ r % 64
theorem dig_eq (r a : Nat) : a / 64 ^ r = a / 64 ^ (r + 1) * 64 + dig r a := by
  unfold dig
  rw [Nat.pow_succ, ← Nat.div_div_eq_div_mul]
  omega
theorem dig_lt (r a : Nat) : dig r a < 64 := Nat.mod_lt _ (by omega)
/-- A name that stays where it hangs as time goes on from now to 'to'. -/
theorem stays {now tu a : Nat} (h1 : now < a) (h2 : now ≤ tu) (h : ring tu now < ring a now ∨ ring a now = ring tu now ∧ dig (ring a now) tu < dig (ring a now) a) : ring a tu = ring a now ∧ tu < a := by
  have hu := @ring_up a now
  have hv := @ring_up tu now
  rcases h with h | ⟨e, h⟩
  · obtain ⟨q, hq⟩ : ∃ q, ring a now = q + 1 := ⟨ring a now - 1, by omega⟩
    have hne := ring_ne (a := a) (b := now) (r := q) (by omega)
    have hw : tu / 64 ^ (q + 1) = now / 64 ^ (q + 1) := div_more hv (by omega)
    have hw' : tu / 64 ^ (q + 1 + 1) = now / 64 ^ (q + 1 + 1) := div_more hv (by omega)
    rw [hq] at hu ⊢
    refine ⟨ring_eq (by rw [hu, hw']) (.inr (by rw [hw]; exact hne)), ?_⟩
    have h3 : now / 64 ^ (q + 1) ≤ a / 64 ^ (q + 1) := Nat.div_le_div_right (by omega)
    exact lt_of_div (k := 64 ^ (q + 1)) (by omega)
  · rw [← e] at hv
    generalize ring a now = r at *
    have h3 := dig_eq r a
    have h4 := dig_eq r tu
    refine ⟨ring_eq (by rw [hu, hv]) (.inr (by rw [h3, h4, hu, hv]; omega)), ?_⟩
    exact lt_of_div (k := 64 ^ r) (by rw [h3, h4, hu, hv]; omega)
/-- Of two names of different rings, or of different slots of one ring, which comes first. -/
theorem first_ring {now a b : Nat} (h1 : now < a) (h2 : now < b) (h : ring a now < ring b now) : a < b := by
  obtain ⟨q, hq⟩ : ∃ q, ring b now = q + 1 := ⟨ring b now - 1, by omega⟩
  have hne := ring_ne (a := b) (b := now) (r := q) (by omega)
  have hu : a / 64 ^ (q + 1) = now / 64 ^ (q + 1) := div_more (@ring_up a now) (by omega)
  have h3 : now / 64 ^ (q + 1) ≤ b / 64 ^ (q + 1) := Nat.div_le_div_right (by omega)
  exact lt_of_div (k := 64 ^ (q + 1)) (by omega)
theorem first_dig {now a b r : Nat} (ha : ring a now = r) (hb : ring b now = r) (h : dig r a < dig r b) : a < b := by
  have h1 := @ring_up a now
  have h2 := @ring_up b now
  rw [ha] at h1
  rw [hb] at h2
  have h3 := dig_eq r a
  have h4 := dig_eq r b
  exact lt_of_div (k := 64 ^ r) (by omega)
end Go.Proofs.Ytaefbibkkkglnaa.Wh
/- Wheel: level, isTime, isName, place. No condition. -/
namespace Go.Proofs.Ytaefbibkkkglnaa.Wh
open Go Go.RowKit Go.Proofs.YtaefbibkkkglnaaW.PrintWords
set_option linter.unusedVariables false
set_option linter.unusedSimpArgs false

def rg (a b : Int) : Nat := ring a.toNat b.toNat
def dg (r : Nat) (a : Int) : Nat := dig r a.toNat
theorem i64_xor (a b : Nat) (ha : a < 9223372036854775808) (hb : b < 9223372036854775808) : bits .xor .i64 (a : Int) (b : Int) = ((a ^^^ b : Nat) : Int) := by
  have hx : a ^^^ b < 2 ^ 63 := Nat.xor_lt_two_pow (by omega) (by omega)
  have h1 : (BitVec.ofInt 64 (a : Int)).toNat = a := by
    rw [BitVec.ofInt_natCast, BitVec.toNat_ofNat]; exact Nat.mod_eq_of_lt (by omega)
  have h2 : (BitVec.ofInt 64 (b : Int)).toNat = b := by
    rw [BitVec.ofInt_natCast, BitVec.toNat_ofNat]; exact Nat.mod_eq_of_lt (by omega)
  show IntKind.i64.wrap ((BitVec.ofInt 64 (a : Int) ^^^ BitVec.ofInt 64 (b : Int)).toNat : Int) = _
  rw [BitVec.toNat_xor, h1, h2]
  simp [IntKind.wrap, IntKind.bits, IntKind.signed]
  omega
theorem lvl_bd (x : Nat) (h : x < 1152921504606846976) : lvl x ≤ 10 := (lvl_le 10 x).2 (Nat.div_eq_of_lt (by omega))
theorem xor_lt {A B : Nat} (hA : A ≤ 1099511627776) (hB : B ≤ 1099511627776) : A ^^^ B < 2199023255552 := by
  have h : A ^^^ B < 2 ^ 41 := Nat.xor_lt_two_pow (by omega) (by omega)
  omega

theorem ret_nat {a b : Nat} (h : a = b) : Ending.returned (.int .i64 (a : Int)) = .returned (.int .i64 (b : Int)) := by rw [h]
set_option maxHeartbeats 400000 in
theorem level_calls (a b : Int) (w : World) (ha : 0 ≤ a) (ha' : a ≤ 1099511627776) (hb : 0 ≤ b) (hb' : b ≤ 1099511627776) :
    Calls Try.prog 30 #[.int .i64 a, .int .i64 b] w fun e w' => e = .returned (.int .i64 (rg a b)) ∧ w = w' := by
  obtain ⟨A, rfl⟩ := Int.eq_ofNat_of_zero_le ha
  obtain ⟨B, rfl⟩ := Int.eq_ofNat_of_zero_le hb
  have hx := i64_xor A B (by omega) (by omega)
  have hX : A ^^^ B < 2199023255552 := xor_lt (by omega) (by omega)
  have HR : Aside0 (rg (A : Int) (B : Int) = lvl ((A ^^^ B) / 64)) := ⟨by unfold rg ring; simp⟩
  generalize A ^^^ B = X at hx hX HR
  generalize rg (A : Int) (B : Int) = R at HR ⊢
  have hR : Aside0 (R ≤ 10) := ⟨by rw [HR.out]; exact lvl_bd _ (by omega)⟩
  go_enter Try.func30, Try.ntmps30
  go_wp2
  go_loopg [5, 6] R (fun kq v5 v6 w' => w = w' ∧ ∃ (n y : Nat), v5 = .int .i64 n ∧ v6 = .int .i64 y ∧ Aside0 (n + lvl y = R) ∧ Aside0 (kq = R - n) ∧ n ≤ 10 ∧ y < 2199023255552)
  case atStart => exact ⟨rfl, 0, X / 64, rfl, by simp, ⟨by rw [HR.out]; omega⟩, ⟨by omega⟩, by omega, by omega⟩
  case round =>
    clear hx
    obtain ⟨rfl, n, y, rfl, rfl, HN, HK, hn, hy⟩ := hrel
    by_cases c : y = 0
    · have c1 : ((y : Int) != 0) = false := by rw [bne_eq_false_iff_eq]; omega
      have hnR := Aside0.mk (show n = R from by have := HN.out; rw [c, lvl_zero] at this; omega)
      clear c
      go_wp2
      go_ret
      exact ⟨ret_nat hnR.out, rfl⟩
    · have c1 : ((y : Int) != 0) = true := by rw [bne_iff_ne]; omega
      have H2 : Aside0 (n + 1 + lvl (y / 64) = R) := ⟨by have := HN.out; rw [lvl_pos c] at this; omega⟩
      clear c
      go_wp2
      go_roundg (R - (n + 1))
      case measure => have := HK.out; have := H2.out; omega
      case rel => exact ⟨rfl, n + 1, y / 64, by go_num, by simp, H2, ⟨rfl⟩, by have := H2.out; have := hR.out; omega, by omega⟩

theorem isTime_calls (n : Int) (w : World) :
    Calls Try.prog 29 #[.int .i64 n] w fun e w' => e = .returned (.bool (decide (0 ≤ n ∧ n ≤ 1099511627776))) ∧ ∃ q, w' = w.drewN q := by
  by_cases h : 0 ≤ n
  · have hd : decide (0 ≤ n) = true := by simpa using h
    go_enter Try.func29, Try.ntmps29
    go_wp2
    all_goals
      (try go_quiet (fail))
      (try go_wp2)
      go_ret
      exact ⟨by simp [h], 0, rfl⟩
  · have hd : decide (0 ≤ n) = false := by simpa using h
    go_enter Try.func29, Try.ntmps29
    go_wp2
    all_goals
      (try go_quiet (fail))
      (try go_wp2)
      go_ret
      exact ⟨by simp [h], 0, rfl⟩
end Go.Proofs.Ytaefbibkkkglnaa.Wh
/- Wheel: the slots as lists of timers, plain. No condition. -/
namespace Go.Proofs.Ytaefbibkkkglnaa.Wh
open Go
set_option linter.unusedVariables false
set_option linter.unusedSimpArgs false

structure Node where
  b : Nat
  id : ByteArray
  tm : Int
def ent (n : Node) : E := (n.id, n.tm)
abbrev Slots := Nat → Nat → List Node
def upd (S : Slots) (r k : Nat) (L : List Node) : Slots := fun r' k' => if r' = r ∧ k' = k then L else S r' k'
theorem upd_same (S : Slots) (r k : Nat) (L : List Node) : upd S r k L r k = L := by simp [upd]
theorem upd_other {S : Slots} {r k : Nat} {L : List Node} {r' k' : Nat} (h : ¬ (r' = r ∧ k' = k)) : upd S r k L r' k' = S r' k' := by simp [upd, h]
def row (f : Nat → List Node) : List Node := (List.range 64).flatMap f
def nodes (S : Slots) : List Node := (List.range 7).flatMap fun r => row (S r)
def cnt (S : Slots) (r : Nat) : Nat := (row (S r)).length

theorem flat_upd {f g : Nat → List Node} {i : Nat} (h : ∀ j, j ≠ i → g j = f j) : ∀ n, i < n → ((List.range n).flatMap g ++ f i).Perm ((List.range n).flatMap f ++ g i)
  | 0, hi => absurd hi (Nat.not_lt_zero _)
  | n + 1, hi => by
    simp only [List.range_succ, List.flatMap_append, List.flatMap_cons, List.flatMap_nil, List.append_nil]
    by_cases e : i = n
    · subst e
      have : (List.range i).flatMap g = (List.range i).flatMap f := by
        have : ∀ m, m ≤ i → (List.range m).flatMap g = (List.range m).flatMap f := fun m => by
          induction m with
          | zero => intro _; rfl
          | succ m ih =>
            intro hm
            simp only [List.range_succ, List.flatMap_append, List.flatMap_cons, List.flatMap_nil, List.append_nil]
            rw [ih (by omega), h m (by omega)]
        exact this i (Nat.le_refl _)
      rw [this, List.append_assoc, List.append_assoc]
      exact List.Perm.append_left _ List.perm_append_comm
    · rw [h n (fun q => e q.symm)]
      have ih := flat_upd h n (by omega)
      rw [List.append_assoc, List.append_assoc]
      refine (List.Perm.append_left _ List.perm_append_comm).trans ?_
      rw [← List.append_assoc]
      refine (ih.append_right _).trans ?_
      rw [List.append_assoc]
      exact List.Perm.append_left _ List.perm_append_comm
theorem row_upd {S : Slots} {r k : Nat} (L : List Node) (hk : k < 64) : (row (upd S r k L r) ++ S r k).Perm (row (S r) ++ L) := by
  have := flat_upd (f := S r) (g := upd S r k L r) (i := k) (fun j hj => upd_other (fun q => hj q.2)) 64 hk
  rwa [upd_same] at this
theorem nodes_upd {S : Slots} {r k : Nat} (L : List Node) (hr : r < 7) (hk : k < 64) : (nodes (upd S r k L) ++ S r k).Perm (nodes S ++ L) := by
  have h1 := flat_upd (f := fun r => row (S r)) (g := fun r' => row (upd S r k L r')) (i := r) (fun j hj => by
    have : upd S r k L j = S j := funext fun k' => upd_other (fun q => hj q.1)
    simp only [this]) 7 hr
  have h2 := row_upd (S := S) (r := r) L hk
  have h3 : ((nodes (upd S r k L) ++ S r k) ++ row (S r)).Perm ((nodes S ++ L) ++ row (S r)) := by
    refine (show ((nodes (upd S r k L) ++ S r k) ++ row (S r)).Perm ((nodes (upd S r k L) ++ row (S r)) ++ S r k) from ?_).trans ?_
    · rw [List.append_assoc, List.append_assoc]
      exact List.Perm.append_left _ List.perm_append_comm
    · refine (h1.append_right _).trans ?_
      show (nodes S ++ row (upd S r k L r) ++ S r k).Perm _
      rw [List.append_assoc]
      refine (List.Perm.append_left _ h2).trans ?_
      rw [List.append_assoc]
      exact List.Perm.append_left _ List.perm_append_comm
  exact (List.perm_append_right_iff _).1 h3
theorem cnt_upd {S : Slots} {r k : Nat} (L : List Node) (hk : k < 64) : cnt (upd S r k L) r + (S r k).length = cnt S r + L.length := by
  have := (row_upd (S := S) (r := r) L hk).length_eq
  simpa [cnt] using this
theorem cnt_other {S : Slots} {r k r' : Nat} (L : List Node) (h : r' ≠ r) : cnt (upd S r k L) r' = cnt S r' := by
  have : upd S r k L r' = S r' := funext fun k' => upd_other (fun q => h q.1)
  simp [cnt, this]
theorem nodes_in {S : Slots} {r k : Nat} {t : Node} (hr : r < 7) (hk : k < 64) : (nodes (upd S r k (t :: S r k))).Perm (t :: nodes S) := by
  have h := nodes_upd (S := S) (t :: S r k) hr hk
  refine (List.perm_append_right_iff (S r k)).1 (h.trans ?_)
  exact List.perm_middle
theorem nodes_out {S : Slots} {r k : Nat} {t : Node} {xs ys : List Node} (hr : r < 7) (hk : k < 64) (hS : S r k = xs ++ t :: ys) : (t :: nodes (upd S r k (xs ++ ys))).Perm (nodes S) := by
  have h := nodes_upd (S := S) (xs ++ ys) hr hk
  rw [hS] at h
  refine (List.perm_append_right_iff (xs ++ ys)).1 (List.Perm.trans ?_ h)
  rw [List.cons_append]
  refine List.Perm.trans ?_ (List.Perm.append_left _ List.perm_middle.symm)
  exact List.perm_middle.symm
theorem mem_row {f : Nat → List Node} {n : Node} : n ∈ row f ↔ ∃ k, k < 64 ∧ n ∈ f k := by
  unfold row
  simp [List.mem_flatMap]
theorem mem_nodes {S : Slots} {n : Node} : n ∈ nodes S ↔ ∃ r k, r < 7 ∧ k < 64 ∧ n ∈ S r k := by
  unfold nodes
  simp only [List.mem_flatMap, List.mem_range, mem_row]
  constructor
  · rintro ⟨r, hr, k, hk, h⟩; exact ⟨r, k, hr, hk, h⟩
  · rintro ⟨r, k, hr, hk, h⟩; exact ⟨r, hr, k, hk, h⟩
theorem len_flat (f : Nat → List Node) (r : Nat) : ∀ n, r < n → (f r).length ≤ ((List.range n).flatMap f).length
  | 0, h => absurd h (Nat.not_lt_zero _)
  | n + 1, h => by
    simp only [List.range_succ, List.flatMap_append, List.flatMap_cons, List.flatMap_nil, List.append_nil, List.length_append]
    by_cases e : r = n
    · subst e; omega
    · have := len_flat f r n (by omega); omega
theorem cnt_le {S : Slots} {r : Nat} (hr : r < 7) : cnt S r ≤ (nodes S).length := len_flat (fun r => row (S r)) r 7 hr
theorem slot_le {S : Slots} {r k : Nat} (hk : k < 64) : (S r k).length ≤ cnt S r := len_flat (S r) k 64 hk
theorem cnt_zero {S : Slots} {r : Nat} (h : cnt S r = 0) (k : Nat) (hk : k < 64) : S r k = [] := List.eq_nil_of_length_eq_zero (by have := slot_le (S := S) (r := r) hk; omega)

/-! ### the blocks' places in a list -/
def hd (nx : Option Nat) : List Node → Option Nat
  | [] => nx
  | n :: _ => some n.b
def last (pv : Option Nat) : List Node → Option Nat
  | [] => pv
  | n :: ns => last (some n.b) ns
theorem hd_append (nx : Option Nat) (ys : List Node) : ∀ xs : List Node, hd nx (xs ++ ys) = hd (hd nx ys) xs
  | [] => rfl
  | _ :: _ => rfl
theorem last_append (ys : List Node) : ∀ (pv : Option Nat) (xs : List Node), last pv (xs ++ ys) = last (last pv xs) ys
  | _, [] => rfl
  | _, n :: xs => last_append ys (some n.b) xs
end Go.Proofs.Ytaefbibkkkglnaa.Wh
/- Wheel: the slot of a timer. No condition. -/
namespace Go.Proofs.Ytaefbibkkkglnaa.Wh
open Go Go.RowKit Go.Proofs.YtaefbibkkkglnaaW.PrintWords
set_option linter.unusedVariables false
set_option linter.unusedSimpArgs false

theorem bits_and63 (n : Int) : bits .and .i64 n 63 = n % 64 := by
  have h1 : (BitVec.ofInt 64 63).toNat = 2 ^ 6 - 1 := by decide
  have key : (BitVec.ofInt 64 n &&& BitVec.ofInt 64 63).toNat = (n % ((2 ^ 64 : Nat) : Int)).toNat % 2 ^ 6 := by
    rw [BitVec.toNat_and, BitVec.toNat_ofInt, h1, Nat.and_two_pow_sub_one_eq_mod]
  show IntKind.i64.wrap ((BitVec.ofInt 64 n &&& BitVec.ofInt 64 63).toNat : Nat) = n % 64
  rw [key, IntKind.wrap_i64]
  omega
attribute [local go_sem] bits_and63

set_option maxHeartbeats 1000000 in
theorem place_calls (p b : Nat) (a : Int) (r : Nat) (w : World) (hr : r < 7) (ha : 0 ≤ a) (ha' : a ≤ 1099511627776)
    (c1 : w.cell? ⟨b, 1, none⟩ = some (.int .i64 a)) (c2 : w.cell? ⟨b, 2, none⟩ = some (.int .i64 r)) :
    Calls Try.prog 54 #[.pointer (some ⟨p, 0, none⟩), .pointer (some ⟨b, 0, none⟩)] w fun e w' => e = .returned (.pointer (some ⟨p, 1 + 64 * r + dg r a, none⟩)) ∧ ∃ n, w' = w.drewN n := by
  obtain ⟨A, rfl⟩ := Int.eq_ofNat_of_zero_le ha
  rcases (by omega : r = 0 ∨ r = 1 ∨ r = 2 ∨ r = 3 ∨ r = 4 ∨ r = 5 ∨ r = 6) with rfl | rfl | rfl | rfl | rfl | rfl | rfl
  all_goals
    unfold dg dig
    go_enter Try.func54, Try.ntmps54
    go_wp2
    go_quiet (fail)
    go_wp2
    go_ret
    exact ⟨by simp, _, rfl⟩
end Go.Proofs.Ytaefbibkkkglnaa.Wh
/- Wheel: hang and unhang in memory. No condition. -/
namespace Go.Proofs.Ytaefbibkkkglnaa.Wh
open Go Go.RowKit Go.Proofs.YtaefbibkkkglnaaW.PrintWords
set_option linter.unusedVariables false
set_option linter.unusedSimpArgs false

theorem cso {w : World} {q a : Addr} {v : Value} (h : w.cell? q = some v) (hne : a ≠ q) (x : Value) : (w.setCell a x).drew.cell? q = some v := by
  show (w.setCell a x).cell? q = some v
  rw [World.cell?_setCell_other _ _ _ _ hne, h]
theorem cs_same {w : World} {q : Addr} {v : Value} (h : w.cell? q = some v) {x : Value} : (w.setCell q x).drew.cell? q = some x := by
  show (w.setCell q x).cell? q = some x
  exact World.cell?_setCell_same _ _ _ h
theorem drewN_of {w w' : World} (ho : w'.os = w.os) (ht : w'.tape = w.tape) (hu : w'.output = w.output) (hh : w'.heap = w.heap) (hd : w.drawn ≤ w'.drawn) : ∃ n, w' = w.drewN n := by
  obtain ⟨h, t, d, o, u⟩ := w
  obtain ⟨h', t', d', o', u'⟩ := w'
  simp only at ho ht hu hh hd
  subst ho ht hu hh
  exact ⟨d' - d, by simp only [World.drewN]; congr 1; omega⟩
theorem cso' {w : World} {q a : Addr} {v : Value} (h : w.cell? q = some v) (hne : a ≠ q) (x : Value) : (w.setCell a x).cell? q = some v := by
  rw [World.cell?_setCell_other _ _ _ _ hne, h]
set_option maxRecDepth 100000 in
set_option maxHeartbeats 2000000 in
theorem hang_nil (p b : Nat) (a now c : Int) (w : World) (v2 v3 v4 : Value) (ha : 0 ≤ a) (ha' : a ≤ 1099511627776) (hn : 0 ≤ now) (hn' : now ≤ 1099511627776) (hr : rg a now < 7) (hc : 0 ≤ c) (hc' : c ≤ 1099511627776) (hpb : p ≠ b) (hbp : b ≠ p)
    (c1 : w.cell? ⟨b, 1, none⟩ = some (.int .i64 a)) (c2 : w.cell? ⟨b, 2, none⟩ = some v2) (c3 : w.cell? ⟨b, 3, none⟩ = some v3) (c4 : w.cell? ⟨b, 4, none⟩ = some v4) (fb : ∀ i, w.frozen? ⟨b, i, none⟩ = false) (fp : ∀ i, w.frozen? ⟨p, i, none⟩ = false)
    (d0 : w.cell? ⟨p, 0, none⟩ = some (.int .i64 now)) (d1 : w.cell? ⟨p, 1 + 64 * rg a now + dg (rg a now) a, none⟩ = some (.pointer none)) (d2 : w.cell? ⟨p, 449 + rg a now, none⟩ = some (.int .i64 c)) :
    Calls Try.prog 32 #[.pointer (some ⟨p, 0, none⟩), .pointer (some ⟨b, 0, none⟩)] w fun e w' => e = .returned (.tuple #[]) ∧ ∃ n, w' = (((((w.setCell ⟨b, 2, none⟩ (.int .i64 (rg a now))).setCell ⟨b, 3, none⟩ (.pointer none)).setCell ⟨b, 4, none⟩ (.pointer none)).setCell ⟨p, 1 + 64 * rg a now + dg (rg a now) a, none⟩ (.pointer (some ⟨b, 0, none⟩))).setCell ⟨p, 449 + rg a now, none⟩ (.int .i64 (c + 1))).drewN n := by
  generalize hR : rg a now = r at *
  have HR := Aside0.mk hR
  clear hR
  have HL : Aside0 (∀ w : World, Calls Try.prog 30 #[.int .i64 a, .int .i64 now] w fun e w' => e = .returned (.int .i64 r) ∧ w = w') := ⟨fun w => by
    have := level_calls a now w ha ha' hn hn'
    rw [HR.out] at this
    exact this⟩
  go_enter Try.func32, Try.ntmps32
  go_wp2_with fail
  go_region_held3 (fun w' => w'.cell? ⟨b, 1, none⟩ = some (.int .i64 a) ∧ w'.cell? ⟨p, 0, none⟩ = some (.int .i64 now)) (first | exact ⟨cso c1 (by simp) _, cso d0 (by simp [hbp]) _⟩ | go_keep) (first | (go_at_call 30; refine ((HL.out _)).mono ?_; rintro e w1 ⟨rfl, rfl⟩))
  go_wp2_with fail
  refine (place_calls p b a r _ hr ha ha' (cso c1 (by simp) _) (cs_same c2)).mono ?_
  rintro e w' ⟨rfl, n, rfl⟩
  have q1 := cso (w := w) (a := ⟨b, 2, none⟩) d1 (by simp [hbp]) (.int .i64 r)
  go_wp2_with fail
  have k2 : (((((w.setCell ⟨b, 2, none⟩ (.int .i64 r)).drewN (1 + n)).setCell ⟨b, 3, none⟩ (.pointer none)).setCell ⟨b, 4, none⟩ (.pointer none)).setCell ⟨p, 1 + 64 * r + dg r a, none⟩ (.pointer (some ⟨b, 0, none⟩))).cell? ⟨b, 2, none⟩ = some (.int .i64 r) := by
    refine cso' ?_ (by simp [hpb, hbp]) _
    refine cso' ?_ (by simp [hpb, hbp]) _
    refine cso' ?_ (by simp [hpb, hbp]) _
    exact cs_same c2
  have k3 : (((((w.setCell ⟨b, 2, none⟩ (.int .i64 r)).drewN (1 + n)).setCell ⟨b, 3, none⟩ (.pointer none)).setCell ⟨b, 4, none⟩ (.pointer none)).setCell ⟨p, 1 + 64 * r + dg r a, none⟩ (.pointer (some ⟨b, 0, none⟩))).cell? ⟨p, 449 + r, none⟩ = some (.int .i64 c) := by
    have := dig_lt r a.toNat
    refine cso' ?_ (by unfold dg; intro e; injection e; omega) _
    refine cso' ?_ (by simp [hpb, hbp]) _
    refine cso' ?_ (by simp [hpb, hbp]) _
    exact cso d2 (by simp [hbp]) _
  have k4 : ∀ i, (((((w.setCell ⟨b, 2, none⟩ (.int .i64 r)).drewN (1 + n)).setCell ⟨b, 3, none⟩ (.pointer none)).setCell ⟨b, 4, none⟩ (.pointer none)).setCell ⟨p, 1 + 64 * r + dg r a, none⟩ (.pointer (some ⟨b, 0, none⟩))).frozen? ⟨p, i, none⟩ = false := fun i => by
    rw [World.frozen?_setCell, World.frozen?_setCell, World.frozen?_setCell]
    exact (World.frozen?_setCell _ _ _ _).trans (fp i)
  generalize hW : (((((w.setCell ⟨b, 2, none⟩ (.int .i64 r)).drewN (1 + n)).setCell ⟨b, 3, none⟩ (.pointer none)).setCell ⟨b, 4, none⟩ (.pointer none)).setCell ⟨p, 1 + 64 * r + dg r a, none⟩ (.pointer (some ⟨b, 0, none⟩))) = W at k2 k3 k4 ⊢
  have HW := Aside0.mk hW
  clear hW
  have i0 : (0 : Int) ≤ (r : Int) := by omega
  have i1 : (r : Int) < 7 := by omega
  have i2 : IntKind.i64.wrap (c + 1) = c + 1 := IntWalk.i64_in _ (by omega)
  go_still_tail 13, (by kernel_rfl)
  go_wp2
  go_end0
  refine ⟨rfl, 1 + n + 1, ?_⟩
  rw [← HW.out]
  rfl
set_option maxRecDepth 100000 in
set_option maxHeartbeats 2000000 in
theorem hang_some (p b h : Nat) (a now c : Int) (w : World) (v2 v3 v4 v5 : Value) (ha : 0 ≤ a) (ha' : a ≤ 1099511627776) (hn : 0 ≤ now) (hn' : now ≤ 1099511627776) (hr : rg a now < 7) (hc : 0 ≤ c) (hc' : c ≤ 1099511627776) (hpb : p ≠ b) (hbp : b ≠ p) (hhb : h ≠ b) (hbh : b ≠ h) (hph : p ≠ h) (hhp : h ≠ p) (c5 : w.cell? ⟨h, 3, none⟩ = some v5) (fh : ∀ i, w.frozen? ⟨h, i, none⟩ = false)
    (c1 : w.cell? ⟨b, 1, none⟩ = some (.int .i64 a)) (c2 : w.cell? ⟨b, 2, none⟩ = some v2) (c3 : w.cell? ⟨b, 3, none⟩ = some v3) (c4 : w.cell? ⟨b, 4, none⟩ = some v4) (fb : ∀ i, w.frozen? ⟨b, i, none⟩ = false) (fp : ∀ i, w.frozen? ⟨p, i, none⟩ = false)
    (d0 : w.cell? ⟨p, 0, none⟩ = some (.int .i64 now)) (d1 : w.cell? ⟨p, 1 + 64 * rg a now + dg (rg a now) a, none⟩ = some (.pointer (some ⟨h, 0, none⟩))) (d2 : w.cell? ⟨p, 449 + rg a now, none⟩ = some (.int .i64 c)) :
    Calls Try.prog 32 #[.pointer (some ⟨p, 0, none⟩), .pointer (some ⟨b, 0, none⟩)] w fun e w' => e = .returned (.tuple #[]) ∧ ∃ n, w' = ((((((w.setCell ⟨b, 2, none⟩ (.int .i64 (rg a now))).setCell ⟨b, 3, none⟩ (.pointer none)).setCell ⟨b, 4, none⟩ (.pointer (some ⟨h, 0, none⟩))).setCell ⟨h, 3, none⟩ (.pointer (some ⟨b, 0, none⟩))).setCell ⟨p, 1 + 64 * rg a now + dg (rg a now) a, none⟩ (.pointer (some ⟨b, 0, none⟩))).setCell ⟨p, 449 + rg a now, none⟩ (.int .i64 (c + 1))).drewN n := by
  generalize hR : rg a now = r at *
  have HR := Aside0.mk hR
  clear hR
  have HL : Aside0 (∀ w : World, Calls Try.prog 30 #[.int .i64 a, .int .i64 now] w fun e w' => e = .returned (.int .i64 r) ∧ w = w') := ⟨fun w => by
    have := level_calls a now w ha ha' hn hn'
    rw [HR.out] at this
    exact this⟩
  go_enter Try.func32, Try.ntmps32
  go_wp2_with fail
  go_region_held3 (fun w' => w'.cell? ⟨b, 1, none⟩ = some (.int .i64 a) ∧ w'.cell? ⟨p, 0, none⟩ = some (.int .i64 now)) (first | exact ⟨cso c1 (by simp) _, cso d0 (by simp [hbp]) _⟩ | go_keep) (first | (go_at_call 30; refine ((HL.out _)).mono ?_; rintro e w1 ⟨rfl, rfl⟩))
  go_wp2_with fail
  refine (place_calls p b a r _ hr ha ha' (cso c1 (by simp) _) (cs_same c2)).mono ?_
  rintro e w' ⟨rfl, n, rfl⟩
  have q1 := cso (w := w) (a := ⟨b, 2, none⟩) d1 (by simp [hbp]) (.int .i64 r)
  go_wp2_with fail
  have k2 : ((((((w.setCell ⟨b, 2, none⟩ (.int .i64 r)).drewN (1 + n)).setCell ⟨b, 3, none⟩ (.pointer none)).setCell ⟨b, 4, none⟩ (.pointer (some ⟨h, 0, none⟩))).setCell ⟨h, 3, none⟩ (.pointer (some ⟨b, 0, none⟩))).setCell ⟨p, 1 + 64 * r + dg r a, none⟩ (.pointer (some ⟨b, 0, none⟩))).cell? ⟨b, 2, none⟩ = some (.int .i64 r) := by
    refine cso' ?_ (by simp [hpb, hbp, hhb, hbh, hph, hhp]) _
    refine cso' ?_ (by simp [hpb, hbp, hhb, hbh, hph, hhp]) _
    refine cso' ?_ (by simp [hpb, hbp, hhb, hbh, hph, hhp]) _
    refine cso' ?_ (by simp [hpb, hbp, hhb, hbh, hph, hhp]) _
    exact cs_same c2
  have k3 : ((((((w.setCell ⟨b, 2, none⟩ (.int .i64 r)).drewN (1 + n)).setCell ⟨b, 3, none⟩ (.pointer none)).setCell ⟨b, 4, none⟩ (.pointer (some ⟨h, 0, none⟩))).setCell ⟨h, 3, none⟩ (.pointer (some ⟨b, 0, none⟩))).setCell ⟨p, 1 + 64 * r + dg r a, none⟩ (.pointer (some ⟨b, 0, none⟩))).cell? ⟨p, 449 + r, none⟩ = some (.int .i64 c) := by
    have := dig_lt r a.toNat
    refine cso' ?_ (by unfold dg; intro e; injection e; omega) _
    refine cso' ?_ (by simp [hpb, hbp, hhb, hbh, hph, hhp]) _
    refine cso' ?_ (by simp [hpb, hbp, hhb, hbh, hph, hhp]) _
    refine cso' ?_ (by simp [hpb, hbp, hhb, hbh, hph, hhp]) _
    exact cso d2 (by simp [hbp]) _
  have k4 : ∀ i, ((((((w.setCell ⟨b, 2, none⟩ (.int .i64 r)).drewN (1 + n)).setCell ⟨b, 3, none⟩ (.pointer none)).setCell ⟨b, 4, none⟩ (.pointer (some ⟨h, 0, none⟩))).setCell ⟨h, 3, none⟩ (.pointer (some ⟨b, 0, none⟩))).setCell ⟨p, 1 + 64 * r + dg r a, none⟩ (.pointer (some ⟨b, 0, none⟩))).frozen? ⟨p, i, none⟩ = false := fun i => by
    rw [World.frozen?_setCell, World.frozen?_setCell, World.frozen?_setCell, World.frozen?_setCell]
    exact (World.frozen?_setCell _ _ _ _).trans (fp i)
  generalize hW : ((((((w.setCell ⟨b, 2, none⟩ (.int .i64 r)).drewN (1 + n)).setCell ⟨b, 3, none⟩ (.pointer none)).setCell ⟨b, 4, none⟩ (.pointer (some ⟨h, 0, none⟩))).setCell ⟨h, 3, none⟩ (.pointer (some ⟨b, 0, none⟩))).setCell ⟨p, 1 + 64 * r + dg r a, none⟩ (.pointer (some ⟨b, 0, none⟩))) = W at k2 k3 k4 ⊢
  have HW := Aside0.mk hW
  clear hW
  have i0 : (0 : Int) ≤ (r : Int) := by omega
  have i1 : (r : Int) < 7 := by omega
  have i2 : IntKind.i64.wrap (c + 1) = c + 1 := IntWalk.i64_in _ (by omega)
  go_still_tail 13, (by kernel_rfl)
  go_wp2
  go_end0
  refine ⟨rfl, 1 + n + 1, ?_⟩
  rw [← HW.out]
  rfl
end Go.Proofs.Ytaefbibkkkglnaa.Wh
/- Wheel: unhang in memory. No condition. -/
namespace Go.Proofs.Ytaefbibkkkglnaa.Wh
open Go Go.RowKit Go.Proofs.YtaefbibkkkglnaaW.PrintWords
set_option linter.unusedVariables false
set_option linter.unusedSimpArgs false

set_option maxRecDepth 100000 in
set_option maxHeartbeats 2000000 in
theorem unhang_nn (p b r : Nat) (a c : Int) (w : World) (v0 : Value) (ha : 0 ≤ a) (ha' : a ≤ 1099511627776) (hr : r < 7) (hc : 0 ≤ c) (hc' : c ≤ 1099511627776) (hpb : p ≠ b) (hbp : b ≠ p)
    (c1 : w.cell? ⟨b, 1, none⟩ = some (.int .i64 a)) (c2 : w.cell? ⟨b, 2, none⟩ = some (.int .i64 r)) (c3 : w.cell? ⟨b, 3, none⟩ = some (.pointer none)) (c4 : w.cell? ⟨b, 4, none⟩ = some (.pointer none)) (fp : ∀ i, w.frozen? ⟨p, i, none⟩ = false)
    (d1 : w.cell? ⟨p, 1 + 64 * r + dg r a, none⟩ = some v0) (d2 : w.cell? ⟨p, 449 + r, none⟩ = some (.int .i64 c)) :
    Calls Try.prog 31 #[.pointer (some ⟨p, 0, none⟩), .pointer (some ⟨b, 0, none⟩)] w fun e w' => e = .returned (.tuple #[]) ∧ ∃ n, w' = ((w.setCell ⟨p, 1 + 64 * r + dg r a, none⟩ (.pointer none)).setCell ⟨p, 449 + r, none⟩ (.int .i64 (c - 1))).drewN n := by
  go_enter Try.func31, Try.ntmps31
  go_wp2_with fail
  go_region_held3 (fun w' => w'.cell? ⟨b, 1, none⟩ = some (.int .i64 a) ∧ w'.cell? ⟨b, 2, none⟩ = some (.int .i64 r) ∧ w'.cell? ⟨b, 4, none⟩ = some (.pointer none)) (first | exact ⟨cso c1 (by simp [hpb, hbp]) _, cso c2 (by simp [hpb, hbp]) _, cso c4 (by simp [hpb, hbp]) _⟩ | go_keep) (first | (go_at_call 54; refine (place_calls p b a r _ hr ha ha' (by go_split_ands; assumption) (by go_split_ands; assumption)).mono ?_; rintro e w1 ⟨rfl, n1, rfl⟩))
  go_wp2_with fail
  have k2 : ((w.drewN (1 + n1)).setCell ⟨p, 1 + 64 * r + dg r a, none⟩ (.pointer none)).cell? ⟨b, 2, none⟩ = some (.int .i64 r) := cso' (w := (w.drewN (1 + n1))) c2 (by simp [hpb, hbp]) _
  have k3 : ((w.drewN (1 + n1)).setCell ⟨p, 1 + 64 * r + dg r a, none⟩ (.pointer none)).cell? ⟨p, 449 + r, none⟩ = some (.int .i64 c) := cso' (w := (w.drewN (1 + n1))) d2 (by have := dig_lt r a.toNat; unfold dg; intro e; injection e; omega) _
  have k4 : ∀ i, ((w.drewN (1 + n1)).setCell ⟨p, 1 + 64 * r + dg r a, none⟩ (.pointer none)).frozen? ⟨p, i, none⟩ = false := fun i => (World.frozen?_setCell _ _ _ _).trans (fp i)
  generalize hV : ((w.drewN (1 + n1)).setCell ⟨p, 1 + 64 * r + dg r a, none⟩ (.pointer none)) = V at k2 k3 k4 ⊢
  have HV := Aside0.mk hV
  clear hV
  have i0 : (0 : Int) ≤ (r : Int) := by omega
  have i1 : (r : Int) < 7 := by omega
  have i2 : IntKind.i64.wrap (c - 1) = c - 1 := IntWalk.i64_in _ (by omega)
  go_still_tail 13, (by kernel_rfl)
  go_wp2
  go_end0
  refine ⟨rfl, (1 + n1 + 1), ?_⟩
  rw [← HV.out]
  rfl

set_option maxRecDepth 100000 in
set_option maxHeartbeats 2000000 in
theorem unhang_ns (p b y r : Nat) (a c : Int) (w : World) (v0 : Value) (vy : Value) (ha : 0 ≤ a) (ha' : a ≤ 1099511627776) (hr : r < 7) (hc : 0 ≤ c) (hc' : c ≤ 1099511627776) (hpb : p ≠ b) (hbp : b ≠ p) (hyb : y ≠ b) (hby : b ≠ y) (hpy : p ≠ y) (hyp : y ≠ p) (cy : w.cell? ⟨y, 3, none⟩ = some vy) (fy : ∀ i, w.frozen? ⟨y, i, none⟩ = false)
    (c1 : w.cell? ⟨b, 1, none⟩ = some (.int .i64 a)) (c2 : w.cell? ⟨b, 2, none⟩ = some (.int .i64 r)) (c3 : w.cell? ⟨b, 3, none⟩ = some (.pointer none)) (c4 : w.cell? ⟨b, 4, none⟩ = some (.pointer (some ⟨y, 0, none⟩))) (fp : ∀ i, w.frozen? ⟨p, i, none⟩ = false)
    (d1 : w.cell? ⟨p, 1 + 64 * r + dg r a, none⟩ = some v0) (d2 : w.cell? ⟨p, 449 + r, none⟩ = some (.int .i64 c)) :
    Calls Try.prog 31 #[.pointer (some ⟨p, 0, none⟩), .pointer (some ⟨b, 0, none⟩)] w fun e w' => e = .returned (.tuple #[]) ∧ ∃ n, w' = (((w.setCell ⟨y, 3, none⟩ (.pointer none)).setCell ⟨p, 1 + 64 * r + dg r a, none⟩ (.pointer (some ⟨y, 0, none⟩))).setCell ⟨p, 449 + r, none⟩ (.int .i64 (c - 1))).drewN n := by
  go_enter Try.func31, Try.ntmps31
  go_wp2_with fail
  go_still_tail 10, (by kernel_rfl)
  go_wp2_with fail
  have e1 := cso (w := w) (a := ⟨y, 3, none⟩) c1 (by simp [hpb, hbp, hyb, hby, hpy, hyp]) (.pointer none)
  have e2 := cso (w := w) (a := ⟨y, 3, none⟩) c2 (by simp [hpb, hbp, hyb, hby, hpy, hyp]) (.pointer none)
  have e3 := cso (w := w) (a := ⟨y, 3, none⟩) c3 (by simp [hpb, hbp, hyb, hby, hpy, hyp]) (.pointer none)
  have e4 := cso (w := w) (a := ⟨y, 3, none⟩) c4 (by simp [hpb, hbp, hyb, hby, hpy, hyp]) (.pointer none)
  have e5 := cso (w := w) (a := ⟨y, 3, none⟩) d2 (by simp [hpb, hbp, hyb, hby, hpy, hyp]) (.pointer none)
  have e6 := cso (w := w) (a := ⟨y, 3, none⟩) d1 (by simp [hpb, hbp, hyb, hby, hpy, hyp]) (.pointer none)
  have g1 : ∀ i, (w.setCell ⟨y, 3, none⟩ (.pointer none)).drew.frozen? ⟨p, i, none⟩ = false := fun i => (World.frozen?_setCell _ _ _ _).trans (fp i)
  generalize hW : (w.setCell ⟨y, 3, none⟩ (.pointer none)).drew = W1 at e1 e2 e3 e4 e5 e6 g1  ⊢
  have HW := Aside0.mk hW
  clear hW c1 c2 c3 c4 d2 fp d1
  go_region_held3 (fun w' => w'.cell? ⟨b, 1, none⟩ = some (.int .i64 a) ∧ w'.cell? ⟨b, 2, none⟩ = some (.int .i64 r) ∧ w'.cell? ⟨b, 4, none⟩ = some (.pointer (some ⟨y, 0, none⟩))) (first | exact ⟨cso e1 (by simp [hpb, hbp, hyb, hby, hpy, hyp]) _, cso e2 (by simp [hpb, hbp, hyb, hby, hpy, hyp]) _, cso e4 (by simp [hpb, hbp, hyb, hby, hpy, hyp]) _⟩ | go_keep) (first | (go_at_call 54; refine (place_calls p b a r _ hr ha ha' (by go_split_ands; assumption) (by go_split_ands; assumption)).mono ?_; rintro e w1 ⟨rfl, n1, rfl⟩))
  go_wp2_with fail
  have k2 : ((W1.drewN (1 + n1)).setCell ⟨p, 1 + 64 * r + dg r a, none⟩ (.pointer (some ⟨y, 0, none⟩))).cell? ⟨b, 2, none⟩ = some (.int .i64 r) := cso' (w := (W1.drewN (1 + n1))) e2 (by simp [hpb, hbp, hyb, hby, hpy, hyp]) _
  have k3 : ((W1.drewN (1 + n1)).setCell ⟨p, 1 + 64 * r + dg r a, none⟩ (.pointer (some ⟨y, 0, none⟩))).cell? ⟨p, 449 + r, none⟩ = some (.int .i64 c) := cso' (w := (W1.drewN (1 + n1))) e5 (by have := dig_lt r a.toNat; unfold dg; intro e; injection e; omega) _
  have k4 : ∀ i, ((W1.drewN (1 + n1)).setCell ⟨p, 1 + 64 * r + dg r a, none⟩ (.pointer (some ⟨y, 0, none⟩))).frozen? ⟨p, i, none⟩ = false := fun i => (World.frozen?_setCell _ _ _ _).trans (g1 i)
  generalize hV : ((W1.drewN (1 + n1)).setCell ⟨p, 1 + 64 * r + dg r a, none⟩ (.pointer (some ⟨y, 0, none⟩))) = V at k2 k3 k4 ⊢
  have HV := Aside0.mk hV
  clear hV
  have i0 : (0 : Int) ≤ (r : Int) := by omega
  have i1 : (r : Int) < 7 := by omega
  have i2 : IntKind.i64.wrap (c - 1) = c - 1 := IntWalk.i64_in _ (by omega)
  go_still_tail 13, (by kernel_rfl)
  go_wp2
  go_end0
  refine ⟨rfl, ?_⟩
  rw [← HV.out, ← HW.out]
  exact drewN_of rfl rfl rfl rfl (by show w.drawn ≤ w.drawn + 1 + (1 + n1) + 1; omega)

set_option maxRecDepth 100000 in
set_option maxHeartbeats 2000000 in
theorem unhang_sn (p b x r : Nat) (a c : Int) (w : World) (vx : Value) (ha : 0 ≤ a) (ha' : a ≤ 1099511627776) (hr : r < 7) (hc : 0 ≤ c) (hc' : c ≤ 1099511627776) (hpb : p ≠ b) (hbp : b ≠ p) (hxb : x ≠ b) (hbx : b ≠ x) (hpx : p ≠ x) (hxp : x ≠ p) (cx : w.cell? ⟨x, 4, none⟩ = some vx) (fx : ∀ i, w.frozen? ⟨x, i, none⟩ = false)
    (c1 : w.cell? ⟨b, 1, none⟩ = some (.int .i64 a)) (c2 : w.cell? ⟨b, 2, none⟩ = some (.int .i64 r)) (c3 : w.cell? ⟨b, 3, none⟩ = some (.pointer (some ⟨x, 0, none⟩))) (c4 : w.cell? ⟨b, 4, none⟩ = some (.pointer none)) (fp : ∀ i, w.frozen? ⟨p, i, none⟩ = false)
    (d2 : w.cell? ⟨p, 449 + r, none⟩ = some (.int .i64 c)) :
    Calls Try.prog 31 #[.pointer (some ⟨p, 0, none⟩), .pointer (some ⟨b, 0, none⟩)] w fun e w' => e = .returned (.tuple #[]) ∧ ∃ n, w' = ((w.setCell ⟨x, 4, none⟩ (.pointer none)).setCell ⟨p, 449 + r, none⟩ (.int .i64 (c - 1))).drewN n := by
  go_enter Try.func31, Try.ntmps31
  go_wp2_with fail
  go_still_tail 10, (by kernel_rfl)
  go_wp2_with fail
  have k2 : (w.setCell ⟨x, 4, none⟩ (.pointer none)).drew.cell? ⟨b, 2, none⟩ = some (.int .i64 r) := cso' (w := w) c2 (by simp [hpb, hbp, hxb, hbx, hpx, hxp]) _
  have k3 : (w.setCell ⟨x, 4, none⟩ (.pointer none)).drew.cell? ⟨p, 449 + r, none⟩ = some (.int .i64 c) := cso' (w := w) d2 (by simp [hpb, hbp, hxb, hbx, hpx, hxp]) _
  have k4 : ∀ i, (w.setCell ⟨x, 4, none⟩ (.pointer none)).drew.frozen? ⟨p, i, none⟩ = false := fun i => (World.frozen?_setCell _ _ _ _).trans (fp i)
  generalize hV : (w.setCell ⟨x, 4, none⟩ (.pointer none)).drew = V at k2 k3 k4 ⊢
  have HV := Aside0.mk hV
  clear hV
  have i0 : (0 : Int) ≤ (r : Int) := by omega
  have i1 : (r : Int) < 7 := by omega
  have i2 : IntKind.i64.wrap (c - 1) = c - 1 := IntWalk.i64_in _ (by omega)
  go_still_tail 13, (by kernel_rfl)
  go_wp2
  go_end0
  refine ⟨rfl, (1 + 1), ?_⟩
  rw [← HV.out]
  rfl

set_option maxRecDepth 100000 in
set_option maxHeartbeats 2000000 in
theorem unhang_ss (p b x y r : Nat) (a c : Int) (w : World) (vx : Value) (vy : Value) (ha : 0 ≤ a) (ha' : a ≤ 1099511627776) (hr : r < 7) (hc : 0 ≤ c) (hc' : c ≤ 1099511627776) (hpb : p ≠ b) (hbp : b ≠ p) (hxb : x ≠ b) (hbx : b ≠ x) (hpx : p ≠ x) (hxp : x ≠ p) (cx : w.cell? ⟨x, 4, none⟩ = some vx) (fx : ∀ i, w.frozen? ⟨x, i, none⟩ = false) (hyb : y ≠ b) (hby : b ≠ y) (hpy : p ≠ y) (hyp : y ≠ p) (cy : w.cell? ⟨y, 3, none⟩ = some vy) (fy : ∀ i, w.frozen? ⟨y, i, none⟩ = false)
    (c1 : w.cell? ⟨b, 1, none⟩ = some (.int .i64 a)) (c2 : w.cell? ⟨b, 2, none⟩ = some (.int .i64 r)) (c3 : w.cell? ⟨b, 3, none⟩ = some (.pointer (some ⟨x, 0, none⟩))) (c4 : w.cell? ⟨b, 4, none⟩ = some (.pointer (some ⟨y, 0, none⟩))) (fp : ∀ i, w.frozen? ⟨p, i, none⟩ = false)
    (d2 : w.cell? ⟨p, 449 + r, none⟩ = some (.int .i64 c)) :
    Calls Try.prog 31 #[.pointer (some ⟨p, 0, none⟩), .pointer (some ⟨b, 0, none⟩)] w fun e w' => e = .returned (.tuple #[]) ∧ ∃ n, w' = (((w.setCell ⟨y, 3, none⟩ (.pointer (some ⟨x, 0, none⟩))).setCell ⟨x, 4, none⟩ (.pointer (some ⟨y, 0, none⟩))).setCell ⟨p, 449 + r, none⟩ (.int .i64 (c - 1))).drewN n := by
  go_enter Try.func31, Try.ntmps31
  go_wp2_with fail
  go_still_tail 10, (by kernel_rfl)
  go_wp2_with fail
  have e1 := cso (w := w) (a := ⟨y, 3, none⟩) c1 (by simp [hpb, hbp, hxb, hbx, hpx, hxp, hyb, hby, hpy, hyp]) (.pointer (some ⟨x, 0, none⟩))
  have e2 := cso (w := w) (a := ⟨y, 3, none⟩) c2 (by simp [hpb, hbp, hxb, hbx, hpx, hxp, hyb, hby, hpy, hyp]) (.pointer (some ⟨x, 0, none⟩))
  have e3 := cso (w := w) (a := ⟨y, 3, none⟩) c3 (by simp [hpb, hbp, hxb, hbx, hpx, hxp, hyb, hby, hpy, hyp]) (.pointer (some ⟨x, 0, none⟩))
  have e4 := cso (w := w) (a := ⟨y, 3, none⟩) c4 (by simp [hpb, hbp, hxb, hbx, hpx, hxp, hyb, hby, hpy, hyp]) (.pointer (some ⟨x, 0, none⟩))
  have e5 := cso (w := w) (a := ⟨y, 3, none⟩) d2 (by simp [hpb, hbp, hxb, hbx, hpx, hxp, hyb, hby, hpy, hyp]) (.pointer (some ⟨x, 0, none⟩))
  obtain ⟨vx', e6⟩ : ∃ vx', (w.setCell ⟨y, 3, none⟩ (.pointer (some ⟨x, 0, none⟩))).drew.cell? ⟨x, 4, none⟩ = some vx' := ⟨_, cso cx (by simp) _⟩
  have g1 : ∀ i, (w.setCell ⟨y, 3, none⟩ (.pointer (some ⟨x, 0, none⟩))).drew.frozen? ⟨p, i, none⟩ = false := fun i => (World.frozen?_setCell _ _ _ _).trans (fp i)
  have g2 : ∀ i, (w.setCell ⟨y, 3, none⟩ (.pointer (some ⟨x, 0, none⟩))).drew.frozen? ⟨x, i, none⟩ = false := fun i => (World.frozen?_setCell _ _ _ _).trans (fx i)
  generalize hW : (w.setCell ⟨y, 3, none⟩ (.pointer (some ⟨x, 0, none⟩))).drew = W1 at e1 e2 e3 e4 e5 e6 g1 g2 ⊢
  have HW := Aside0.mk hW
  clear hW c1 c2 c3 c4 d2 fp cx fx
  go_still_tail 10, (by kernel_rfl)
  go_wp2_with fail
  have k2 : (W1.setCell ⟨x, 4, none⟩ (.pointer (some ⟨y, 0, none⟩))).drew.cell? ⟨b, 2, none⟩ = some (.int .i64 r) := cso' (w := W1) e2 (by simp [hpb, hbp, hxb, hbx, hpx, hxp, hyb, hby, hpy, hyp]) _
  have k3 : (W1.setCell ⟨x, 4, none⟩ (.pointer (some ⟨y, 0, none⟩))).drew.cell? ⟨p, 449 + r, none⟩ = some (.int .i64 c) := cso' (w := W1) e5 (by simp [hpb, hbp, hxb, hbx, hpx, hxp, hyb, hby, hpy, hyp]) _
  have k4 : ∀ i, (W1.setCell ⟨x, 4, none⟩ (.pointer (some ⟨y, 0, none⟩))).drew.frozen? ⟨p, i, none⟩ = false := fun i => (World.frozen?_setCell _ _ _ _).trans (g1 i)
  generalize hV : (W1.setCell ⟨x, 4, none⟩ (.pointer (some ⟨y, 0, none⟩))).drew = V at k2 k3 k4 ⊢
  have HV := Aside0.mk hV
  clear hV
  have i0 : (0 : Int) ≤ (r : Int) := by omega
  have i1 : (r : Int) < 7 := by omega
  have i2 : IntKind.i64.wrap (c - 1) = c - 1 := IntWalk.i64_in _ (by omega)
  go_still_tail 13, (by kernel_rfl)
  go_wp2
  go_end0
  refine ⟨rfl, (1 + 1 + 1), ?_⟩
  rw [← HV.out, ← HW.out]
  rfl

end Go.Proofs.Ytaefbibkkkglnaa.Wh
/- Maps from strings, with whatever elements: the block as a list of entries in the order in which they were laid in; what the operations do. No condition. -/
namespace Go.Proofs.Ytaefbibkkkglnaa.Mp
open Go Go.MapKept
open Go.ChangeMaps (setBlock heap_setBlock_same heap_setBlock_other)
set_option linter.unusedVariables false
set_option linter.unusedSimpArgs false

abbrev Ent := ByteArray × Value
def entOf (e : MapEntry) : Value × Value := (e.key, e.val)
def encE (p : Ent) : Value × Value := (.string p.1, p.2)
/-- Block m is a map whose entries are es. -/
def IsM (w : World) (m : Nat) (es : List Ent) : Prop :=
  ∃ arr clock, w.heap[m]? = some (.map arr clock) ∧ Stamped arr clock ∧ arr.toList.map entOf = es.map encE

theorem IsM.nodup {w : World} {m : Nat} {es : List Ent} (h : IsM w m es) : (es.map Prod.fst).Nodup := by
  obtain ⟨arr, clock, _, hs, he⟩ := h
  have h1 : arr.toList.map (·.key) = es.map fun p => Value.string p.1 := by
    have := congrArg (List.map Prod.fst) he
    simpa [List.map_map, Function.comp_def, entOf, encE] using this
  have h2 := hs.2.2
  rw [h1] at h2
  have h3 : es.map (fun p => Value.string p.1) = (es.map Prod.fst).map Value.string := by simp [List.map_map, Function.comp_def]
  rw [h3] at h2
  exact (List.pairwise_map.1 h2).imp fun hne e => hne (by rw [e])
theorem IsM.lt {w : World} {m : Nat} {es : List Ent} (h : IsM w m es) : m < w.heap.size := by
  obtain ⟨arr, clock, hb, _⟩ := h
  exact (Array.getElem?_eq_some_iff.1 hb).1
theorem IsM.move {w w' : World} {m : Nat} {es : List Ent} (h : IsM w m es) (hm : w'.heap[m]? = w.heap[m]?) : IsM w' m es := by
  obtain ⟨arr, clock, hb, r⟩ := h
  exact ⟨arr, clock, hm.trans hb, r⟩
theorem IsM.noCells {w : World} {m : Nat} {es : List Ent} (h : IsM w m es) (cs : Array Value) (t : TypeId) (f : Nat × Nat) : w.heap[m]? ≠ some (.cells cs t f) := by
  obtain ⟨arr, clock, hb, _⟩ := h
  rw [hb]
  simp
theorem isM_new (w : World) : IsM (w.alloc (.map #[] 0)) w.heap.size [] := ⟨#[], 0, (MapKept.heap_alloc w _).1, stamped_empty 0, rfl⟩

section
variable {w : World} {m : Nat} {es : List Ent} {arr : Array MapEntry} {clock : Nat}
theorem keys_str (he : arr.toList.map entOf = es.map encE) : ∀ x ∈ arr.toList, IsKey .string x.key := fun x hx => by
  have : entOf x ∈ es.map encE := by rw [← he]; exact List.mem_map.2 ⟨x, hx, rfl⟩
  obtain ⟨p, _, hp⟩ := List.mem_map.1 this
  have : x.key = .string p.1 := (congrArg Prod.fst hp).symm
  rw [this]
  trivial
theorem ent_at (he : arr.toList.map entOf = es.map encE) (j : Nat) (e : MapEntry) (hj : arr.toList[j]? = some e) : ∃ p, es[j]? = some p ∧ e.key = .string p.1 ∧ e.val = p.2 := by
  have h1 : (arr.toList.map entOf)[j]? = some (entOf e) := by simp [hj]
  rw [he, List.getElem?_map] at h1
  cases hp : es[j]? with
  | none => rw [hp] at h1; cases h1
  | some p =>
    rw [hp] at h1
    simp [entOf, encE] at h1
    exact ⟨p, rfl, h1.1.symm, h1.2.symm⟩
theorem find_str (he : arr.toList.map entOf = es.map encE) (k : ByteArray) :
    (Instr.findNow .string (.string k) arr.toList 0 = some none ∧ k ∉ es.map Prod.fst) ∨ ∃ (j : Nat) (e : MapEntry) (p : Ent), Instr.findNow .string (.string k) arr.toList 0 = some (some (j, p.2)) ∧ arr.toList[j]? = some e ∧ e.key = .string k ∧ es[j]? = some p ∧ p.1 = k := by
  rcases findNow_spec (d := .string) (k := .string k) trivial arr.toList 0 (keys_str he) with ⟨h1, h2⟩ | ⟨j, e, h1, h2, h3⟩
  · refine .inl ⟨h1, fun hk => ?_⟩
    obtain ⟨p, hp, rfl⟩ := List.mem_map.1 hk
    have : encE p ∈ arr.toList.map entOf := by rw [he]; exact List.mem_map.2 ⟨p, hp, rfl⟩
    obtain ⟨x, hx, hxe⟩ := List.mem_map.1 this
    exact h2 x hx (congrArg Prod.fst hxe)
  · obtain ⟨p, hp, hp1, hp2⟩ := ent_at he j e h2
    refine .inr ⟨j, e, p, by rw [h1, hp2]; simp, h2, h3, hp, ?_⟩
    rw [hp1] at h3
    injection h3

variable {P : Program} {t k v : TypeId}
/-- m[k]: the key is there. -/
theorem look_in (h : IsM w m es) (ht : P.underlying t = some (.map k v)) (hk : P.underlying k = some .string) {key : ByteArray} {x : Value} (hx : (key, x) ∈ es) (ok : Bool) :
    (Instr.lookup t (.map (some m)) (.string key) ok).run P w = .ok (if ok then .tuple #[x, .bool true] else x) w := by
  have hn := h.nodup
  obtain ⟨arr, clock, hb, hs, he⟩ := h
  rcases find_str he key with ⟨_, h2⟩ | ⟨j, e, p, h1, h2, h3, h4, h5⟩
  · exact absurd (List.mem_map.2 ⟨_, hx, rfl⟩) h2
  · have : p = (key, x) := by
      obtain ⟨i, hi⟩ := List.getElem?_of_mem hx
      have h6 : (es.map Prod.fst)[i]? = some key := by simp [hi]
      have h7 : (es.map Prod.fst)[j]? = some key := by simp [h4, h5]
      have hjl : j < (es.map Prod.fst).length := (List.getElem?_eq_some_iff.1 h7).1
      have : j = i := (List.getElem?_inj hjl hn).1 (h7.trans h6.symm)
      subst this
      rw [h4] at hi
      injection hi
    subst this
    cases ok <;> simp [Instr.lookup, run_underlying ht, MapKept.run_getObj_map hb, run_checkKey hk (show IsKey .string (.string key) from trivial), run_findKey hk h1, Result.andThen]
/-- m[k]: the key is not there. -/
theorem look_out (h : IsM w m es) (ht : P.underlying t = some (.map k v)) (hk : P.underlying k = some .string) {key : ByteArray} (hx : key ∉ es.map Prod.fst) (ok : Bool) {z : Value} (hz : (zeroValue v).run P w = .ok z w) :
    (Instr.lookup t (.map (some m)) (.string key) ok).run P w = .ok (if ok then .tuple #[z, .bool false] else z) w := by
  obtain ⟨arr, clock, hb, hs, he⟩ := h
  rcases find_str he key with ⟨h1, _⟩ | ⟨j, e, p, h1, h2, h3, h4, h5⟩
  · cases ok <;> simp [Instr.lookup, run_underlying ht, MapKept.run_getObj_map hb, run_checkKey hk (show IsKey .string (.string key) from trivial), run_findKey hk h1, hz, Result.andThen]
  · exact absurd (List.mem_map.2 ⟨p, List.mem_of_getElem? h4, h5⟩) hx
/-- len(m). -/
theorem len_m (h : IsM w m es) (ht : P.underlying t = some (.map k v)) (ty : TypeId) : (Builtin.len_ #[t] ty #[.map (some m)]).run P w = .ok (.int .i64 es.length) w := by
  obtain ⟨arr, clock, hb, hs, he⟩ := h
  have : arr.size = es.length := by
    have := congrArg List.length he
    simpa using this
  simp [Builtin.len_, run_underlying ht, MapKept.run_getObj_map hb, goInt, Result.andThen, this]
/-- m[k] = x, k new. -/
theorem put_new (h : IsM w m es) (ht : P.underlying t = some (.map k v)) (hk : P.underlying k = some .string) {key : ByteArray} (hx : key ∉ es.map Prod.fst) (x : Value) :
    ∃ w', (Instr.mapUpdate t (.map (some m)) (.string key) x).run P w = .ok () w' ∧ IsM w' m (es ++ [(key, x)]) ∧ w.grownBy w' (some m) ∧ w'.heap.size = w.heap.size := by
  obtain ⟨arr, clock, hb, hs, he⟩ := h
  rcases find_str he key with ⟨h1, _⟩ | ⟨j, e, p, h1, h2, h3, h4, h5⟩
  · refine ⟨setBlock w m (.map (arr.push { key := .string key, val := x, born := clock }) (clock + 1)), ?_, ⟨_, _, heap_setBlock_same hb _, stamped_push hs (fun y hy hyk => ?_), ?_⟩, ⟨rfl, rfl, rfl, by simp [setBlock], fun i _ hi => heap_setBlock_other hb _ (fun e => hi (by rw [e]))⟩, by simp [setBlock]⟩
    · simp [Instr.mapUpdate, run_underlying ht, MapKept.run_getObj_map hb, run_checkKey hk (show IsKey .string (.string key) from trivial), run_findKey hk h1, MapKept.run_setObj_map _ hb, Result.andThen, setBlock]
    · have : entOf y ∈ es.map encE := by rw [← he]; exact List.mem_map.2 ⟨y, hy, rfl⟩
      obtain ⟨p, hp, hpe⟩ := List.mem_map.1 this
      have h5 : Value.string p.1 = y.key := congrArg Prod.fst hpe
      rw [hyk] at h5
      injection h5 with h5
      exact hx (List.mem_map.2 ⟨p, hp, h5⟩)
    · simp [he, entOf, encE]
  · exact absurd (List.mem_map.2 ⟨p, List.mem_of_getElem? h4, h5⟩) hx
/-- An entry's element replaced. -/
def repl (key : ByteArray) (x : Value) (es : List Ent) : List Ent := es.map fun p => if p.1 = key then (key, x) else p
/-- m[k] = x, k there. -/
theorem put_old (h : IsM w m es) (ht : P.underlying t = some (.map k v)) (hk : P.underlying k = some .string) {key : ByteArray} (hx : key ∈ es.map Prod.fst) (x : Value) :
    ∃ w', (Instr.mapUpdate t (.map (some m)) (.string key) x).run P w = .ok () w' ∧ IsM w' m (repl key x es) ∧ w.grownBy w' (some m) ∧ w'.heap.size = w.heap.size := by
  have hn := h.nodup
  obtain ⟨arr, clock, hb, hs, he⟩ := h
  rcases find_str he key with ⟨_, h1⟩ | ⟨j, e, p, h1, h2, h3, h4, h5⟩
  · exact absurd hx h1
  · have hj : arr[j]? = some e := by rw [← Array.getElem?_toList]; exact h2
    have hsb := MapKept.run_keyThatStays (P := P) (w := w) (d := .string) (k := .string key) trivial
    refine ⟨setBlock w m (.map (arr.modify j fun e => { e with key := .string key, val := x }) clock), ?_, ⟨_, _, heap_setBlock_same hb _, stamped_modify hs j _ (fun _ _ => rfl) (fun y _ hy => ?_), ?_⟩, ⟨rfl, rfl, rfl, by simp [setBlock], fun i _ hi => heap_setBlock_other hb _ (fun e => hi (by rw [e]))⟩, by simp [setBlock]⟩
    · simp [Instr.mapUpdate, run_underlying ht, MapKept.run_getObj_map hb, run_checkKey hk (show IsKey .string (.string key) from trivial), run_findKey hk h1, hj, h3, hsb, MapKept.run_setObj_map _ hb, Result.andThen, setBlock]
    · rw [hj] at hy
      injection hy with hy
      rw [← hy, h3]
    · apply List.ext_getElem?
      intro i
      have hi : (arr.toList.map entOf)[i]? = (es.map encE)[i]? := by rw [he]
      simp only [List.getElem?_map, Array.getElem?_toList, Array.getElem?_modify] at hi ⊢
      unfold repl
      simp only [List.getElem?_map]
      by_cases hij : j = i
      · subst hij
        rw [hj, h4]
        simp [entOf, encE, h5]
      · rw [if_neg hij, hi]
        cases hp : es[i]? with
        | none => rfl
        | some q =>
          have hq : q.1 ≠ key := fun hq => by
            have h6 : (es.map Prod.fst)[i]? = some key := by simp [hp, hq]
            have h7 : (es.map Prod.fst)[j]? = some key := by simp [h4, h5]
            have hjl : j < (es.map Prod.fst).length := (List.getElem?_eq_some_iff.1 h7).1
            exact hij ((List.getElem?_inj hjl hn).1 (h7.trans h6.symm))
          simp [hq]
/-- delete(m, k). -/
def drop (key : ByteArray) (es : List Ent) : List Ent := es.filter fun p => decide (p.1 ≠ key)
theorem drop_none {key : ByteArray} (hx : key ∉ es.map Prod.fst) : drop key es = es := by
  unfold drop
  rw [List.filter_eq_self]
  intro p hp
  simp
  intro e
  exact hx (List.mem_map.2 ⟨p, hp, e⟩)
theorem drop_eraseIdx : ∀ (l : List Ent) (j : Nat) (p : Ent), (l.map Prod.fst).Nodup → l[j]? = some p → drop p.1 l = l.eraseIdx j
  | [], j, p, _, h => by simp at h
  | x :: l, 0, p, hn, h => by
    simp at h
    subst h
    obtain ⟨h1, _⟩ := List.nodup_cons.1 (show (x.1 :: l.map Prod.fst).Nodup from hn)
    show List.filter _ (x :: l) = l
    rw [List.filter_cons_of_neg (by simp)]
    exact drop_none h1
  | x :: l, j + 1, p, hn, h => by
    obtain ⟨h1, h2⟩ := List.nodup_cons.1 (show (x.1 :: l.map Prod.fst).Nodup from hn)
    have hl : l[j]? = some p := by simpa using h
    have hne : x.1 ≠ p.1 := fun e => h1 (e ▸ List.mem_map.2 ⟨p, List.mem_of_getElem? hl, rfl⟩)
    show List.filter _ (x :: l) = x :: l.eraseIdx j
    rw [List.filter_cons_of_pos (by simpa using hne), ← drop_eraseIdx l j p h2 hl]
    rfl
theorem del_m (h : IsM w m es) (ht : P.underlying t = some (.map k v)) (hk : P.underlying k = some .string) (key : ByteArray) (ty : TypeId) :
    ∃ w', (Builtin.delete_ #[t, k] ty #[.map (some m), .string key]).run P w = .ok (.tuple #[]) w' ∧ IsM w' m (drop key es) ∧ w.grownBy w' (some m) ∧ w'.heap.size = w.heap.size := by
  have hn := h.nodup
  obtain ⟨arr, clock, hb, hs, he⟩ := h
  rcases find_str he key with ⟨h1, h2⟩ | ⟨j, e, p, h1, h2, h3, h4, h5⟩
  · refine ⟨setBlock w m (.map arr clock), ?_, ⟨_, _, heap_setBlock_same hb _, hs, by rw [drop_none h2]; exact he⟩, ⟨rfl, rfl, rfl, by simp [setBlock], fun i _ hi => heap_setBlock_other hb _ (fun e => hi (by rw [e]))⟩, by simp [setBlock]⟩
    simp [Builtin.delete_, run_underlying ht, MapKept.run_getObj_map hb, run_checkKey hk (show IsKey .string (.string key) from trivial), run_findKey hk h1, MapKept.run_setObj_map _ hb, Result.andThen, setBlock]
  · have hjl : j < arr.size := by
      have := (List.getElem?_eq_some_iff.1 h2).1
      simpa using this
    refine ⟨setBlock w m (.map (arr.eraseIdxIfInBounds j) clock), ?_, ⟨_, _, heap_setBlock_same hb _, stamped_erase hs j, ?_⟩, ⟨rfl, rfl, rfl, by simp [setBlock], fun i _ hi => heap_setBlock_other hb _ (fun e => hi (by rw [e]))⟩, by simp [setBlock]⟩
    · simp [Builtin.delete_, run_underlying ht, MapKept.run_getObj_map hb, run_checkKey hk (show IsKey .string (.string key) from trivial), run_findKey hk h1, MapKept.run_setObj_map _ hb, Result.andThen, setBlock]
    · have e1 : (arr.eraseIdxIfInBounds j).toList = arr.toList.eraseIdx j := by
        unfold Array.eraseIdxIfInBounds
        rw [dif_pos hjl]
        simp
      rw [e1, ← h5, drop_eraseIdx es j p hn h4]
      rw [ChangeMaps.map_eraseIdx, ChangeMaps.map_eraseIdx, he]
end

/-! ### range -/
/-- Block r goes over the map in block m: left are still to come. -/
def Rng (w : World) (m r : Nat) (es left : List Ent) : Prop :=
  ∃ arr clock since seen c0, w.heap[m]? = some (.map arr clock) ∧ Stamped arr clock ∧ arr.toList.map entOf = es.map encE ∧
    w.heap[r]? = some (.mapIter (some m) since seen c0) ∧ (∀ x ∈ arr.toList, x.born < since) ∧ since ≤ c0 ∧ since ≤ clock ∧ (leftOf arr seen).toList.map entOf = left.map encE
theorem Rng.isM {w : World} {m r : Nat} {es left : List Ent} (h : Rng w m r es left) : IsM w m es := by
  obtain ⟨arr, clock, since, seen, c0, h1, h2, h3, _⟩ := h
  exact ⟨arr, clock, h1, h2, h3⟩
theorem Rng.move {w w' : World} {m r : Nat} {es left : List Ent} (h : Rng w m r es left) (hm : w'.heap[m]? = w.heap[m]?) (hr : w'.heap[r]? = w.heap[r]?) : Rng w' m r es left := by
  obtain ⟨arr, clock, since, seen, c0, h1, h2, h3, h4, rest⟩ := h
  exact ⟨arr, clock, since, seen, c0, hm.trans h1, h2, h3, hr.trans h4, rest⟩
theorem Rng.lt {w : World} {m r : Nat} {es left : List Ent} (h : Rng w m r es left) : r < w.heap.size := by
  obtain ⟨arr, clock, since, seen, c0, h1, h2, h3, h4, rest⟩ := h
  exact (Array.getElem?_eq_some_iff.1 h4).1
theorem Rng.ne {w : World} {m r : Nat} {es left : List Ent} (h : Rng w m r es left) : r ≠ m := by
  obtain ⟨arr, clock, since, seen, c0, h1, h2, h3, h4, rest⟩ := h
  rintro rfl
  rw [h1] at h4
  cases h4
theorem enc_inj : ∀ {p q : Ent}, encE p = encE q → p = q := fun {p q} h => by
  simp [encE] at h
  exact Prod.ext h.1 h.2
theorem enc_map_inj : ∀ {l l' : List Ent}, l.map encE = l'.map encE → l = l'
  | [], [], _ => rfl
  | [], _ :: _, h => by simp at h
  | _ :: _, [], h => by simp at h
  | x :: l, y :: l', h => by
    simp only [List.map_cons, List.cons.injEq] at h
    rw [enc_inj h.1, enc_map_inj h.2]
variable {P : Program}
theorem range_m {w : World} {m : Nat} {es : List Ent} {t k v : TypeId} (h : IsM w m es) (ht : P.underlying t = some (.map k v)) :
    ∃ w', (Instr.range t (.map (some m))).run P w = .ok (.pointer (some ⟨w.heap.size, 0, none⟩)) w' ∧ Rng w' m w.heap.size es es ∧ w.grownBy w' none ∧ w'.heap.size = w.heap.size + 1 := by
  have hlt := h.lt
  obtain ⟨arr, clock, hb, hs, he⟩ := h
  exact ⟨_, run_range_map w t k v m arr clock ht hb, ⟨arr, clock, clock, #[], clock, ((MapKept.heap_alloc w _).2 m hlt).trans hb, hs, he, (MapKept.heap_alloc w _).1, hs.1, Nat.le_refl _, Nat.le_refl _, by rw [← he]; unfold leftOf; rw [Array.toList_filter]; congr 1; rw [List.filter_eq_self]; intro x _; simp⟩, World.grownBy_alloc w _ none, by simp⟩
theorem left_nodup {arr : Array MapEntry} {seen : Array Nat} (h : (arr.toList.map (·.born)).Nodup) : ((leftOf arr seen).toList.map (·.born)).Nodup := by
  unfold leftOf
  rw [Array.toList_filter]
  exact (List.filter_sublist.map _).nodup h
theorem filter_ne_born : ∀ (l : List MapEntry) (e : MapEntry), (l.map (·.born)).Nodup → e ∈ l → (e :: l.filter fun x => !(x.born == e.born)).Perm l
  | [], e, _, h => by simp at h
  | x :: l, e, hn, h => by
    obtain ⟨h1, h2⟩ := List.nodup_cons.1 (show (x.born :: l.map (·.born)).Nodup from hn)
    rcases List.mem_cons.1 h with rfl | h
    · rw [List.filter_cons_of_neg (by simp)]
      refine List.Perm.cons _ ?_
      rw [List.filter_eq_self.2]
      intro y hy
      simp
      intro he
      exact h1 (he ▸ List.mem_map.2 ⟨y, hy, rfl⟩)
    · have hne : ¬ x.born = e.born := fun he => h1 (he ▸ List.mem_map.2 ⟨e, h, rfl⟩)
      rw [List.filter_cons_of_pos (by simpa using hne)]
      exact (List.Perm.swap _ _ _).trans ((filter_ne_born l e h2 h).cons x)
/-- The step: nothing is left, or one of those that are left comes out. -/
theorem Rng.next {w : World} {m r : Nat} {es left : List Ent} (h : Rng w m r es left) (ty : TypeId) :
    (left = [] ∧ (Instr.next (.pointer (some ⟨r, 0, none⟩)) false ty).run P w = .ok (.tuple #[.bool false]) w) ∨
    ∃ (p : Ent) (left' : List Ent) (w' : World), (p :: left').Perm left ∧ (Instr.next (.pointer (some ⟨r, 0, none⟩)) false ty).run P w = .ok (.tuple #[.bool true, .string p.1, p.2]) w' ∧
      Rng w' m r es left' ∧ w.grownBy w' (some r) ∧ w'.heap.size = w.heap.size ∧ (Instr.entry (.pointer (some ⟨r, 0, none⟩))).run P w' = .ok (.tuple #[.string p.1, p.2]) w' := by
  have hne := h.ne
  obtain ⟨arr, clock, since, seen, c0, hb, hs, he, hr, hold, hsc, hsk, hl⟩ := h
  rcases run_next_at (P := P) w ty r m since c0 seen arr clock hr hb hold hsc with ⟨h0, hrun⟩ | ⟨e, hel, w1, hal, hrun⟩
  · refine .inl ⟨?_, hrun⟩
    have : (leftOf arr seen).toList = [] := List.eq_nil_of_length_eq_zero (by simpa using h0)
    rw [this] at hl
    simpa using hl.symm
  · have hem : e ∈ arr.toList := (mem_left hel).1
    obtain ⟨p, hp, hpe⟩ : ∃ p ∈ left, encE p = entOf e := List.mem_map.1 (by rw [← hl]; exact List.mem_map.2 ⟨e, hel, rfl⟩)
    have hk : e.key = .string p.1 := (congrArg Prod.fst hpe).symm
    have hv : e.val = p.2 := (congrArg Prod.snd hpe).symm
    have hr1 : w1.heap[r]? = some (.mapIter (some m) since seen c0) := by rcases hal with rfl | rfl <;> exact hr
    have hb1 : w1.heap[m]? = some (.map arr clock) := by rcases hal with rfl | rfl <;> exact hb
    have hset := heap_set (o' := .mapIter (some m) since (seen.push e.born) clock) hr1
    have hb' : (setBlock w1 r (.mapIter (some m) since (seen.push e.born) clock)).heap[m]? = some (.map arr clock) := (hset.2 m (fun e1 => hne e1.symm)).trans hb1
    -- what is left behind the step
    have hL : (leftOf arr (seen.push e.born)).toList = (leftOf arr seen).toList.filter fun x => !(x.born == e.born) := by
      unfold leftOf
      rw [Array.toList_filter, Array.toList_filter, List.filter_filter]
      congr 1
      funext x
      rw [contains_push]
      cases seen.contains x.born <;> cases (x.born == e.born) <;> rfl
    have hperm := filter_ne_born _ e (left_nodup hs.2.1) hel
    have hall : ∀ x ∈ (leftOf arr seen).toList.filter (fun x => !(x.born == e.born)), ∃ q : Ent, entOf x = encE q := fun x hx => by
      have : entOf x ∈ left.map encE := by rw [← hl]; exact List.mem_map.2 ⟨x, (List.mem_filter.1 hx).1, rfl⟩
      obtain ⟨q, _, hq⟩ := List.mem_map.1 this
      exact ⟨q, hq.symm⟩
    obtain ⟨left', hleft⟩ : ∃ left' : List Ent, ((leftOf arr seen).toList.filter fun x => !(x.born == e.born)).map entOf = left'.map encE := by
      generalize ((leftOf arr seen).toList.filter fun x => !(x.born == e.born)) = L at hall
      clear hperm hL
      induction L with
      | nil => exact ⟨[], rfl⟩
      | cons x L ih =>
        obtain ⟨q, hq⟩ := hall x (by simp)
        obtain ⟨l', hl'⟩ := ih (fun y hy => hall y (by simp [hy]))
        exact ⟨q :: l', by simp [hq, hl']⟩
    refine .inr ⟨p, left', _, ?_, by rw [← hk, ← hv]; exact hrun, ⟨arr, clock, since, seen.push e.born, clock, hb', hs, he, hset.1, hold, hsk, hsk, by rw [hL]; exact hleft⟩, ?_, ?_, by rw [← hk, ← hv]; exact run_entry_at _ r m since seen arr clock e hset.1 hb' hem hs.2.1⟩
    · have h1 := hperm.map entOf
      rw [List.map_cons, hleft, hl, ← hpe, ← List.map_cons (f := encE)] at h1
      -- a permutation of encodings is one of what is encoded
      have : ∀ {a b : List Ent}, (a.map encE).Perm (b.map encE) → a.Perm b := fun {a b} hab => by
        have h2 : ∀ l : List Ent, (l.map encE).map (fun v : Value × Value => ((match v.1 with | .string s => s | _ => ByteArray.empty), v.2)) = l := fun l => by
          rw [List.map_map]
          conv => rhs; rw [← List.map_id l]
          rfl
        have := hab.map (fun v : Value × Value => ((match v.1 with | .string s => s | _ => ByteArray.empty), v.2))
        rwa [h2, h2] at this
      exact this h1
    · rcases hal with rfl | rfl <;> exact ⟨rfl, rfl, rfl, by simp [setBlock], fun i _ hi => hset.2 i (fun e1 => hi (by rw [e1]))⟩
    · rcases hal with rfl | rfl <;> simp [setBlock]

/-! ### at the operations, for the walk -/
section
variable (w : World) {ops : Array Oper} {rest : List Oper} {o : Oper} {a : Act} {Q : Exit → Act → World → Prop}
theorem wpList_put_new (hg : o.guard = none) (mo xo vo : Operand) (t : TypeId) (hop : o.op = Op.mapUpdate t mo xo vo) {k e : TypeId} (ht : P.underlying t = some (.map k e)) (hk : P.underlying k = some .string) {m : Nat} {es : List Ent}
    (hm : a.eval mo = .map (some m)) (h : IsM w m es) (key : ByteArray) (val : Value) (hx : a.eval xo = .string key) (hv : a.eval vo = val) (hn : key ∉ es.map Prod.fst)
    (hK : ∀ w', IsM w' m (es ++ [(key, val)]) → w.grownBy w' (some m) → w'.heap.size = w.heap.size → wpList P ops Q rest (a.put o.dst undef) w') : wpList P ops Q (o :: rest) a w := by
  refine wpList_plain hg fun K' hK' => ?_
  obtain ⟨w', hrun, r1, r2, r3⟩ := put_new h ht hk hn val
  unfold Oper.wp
  simp [execOp, hop, hm, hx, hv, hrun, Result.andThen]
  exact hK' _ _ (hK w' r1 r2 r3)
theorem wpList_put_old (hg : o.guard = none) (mo xo vo : Operand) (t : TypeId) (hop : o.op = Op.mapUpdate t mo xo vo) {k e : TypeId} (ht : P.underlying t = some (.map k e)) (hk : P.underlying k = some .string) {m : Nat} {es : List Ent}
    (hm : a.eval mo = .map (some m)) (h : IsM w m es) (key : ByteArray) (val : Value) (hx : a.eval xo = .string key) (hv : a.eval vo = val) (hn : key ∈ es.map Prod.fst)
    (hK : ∀ w', IsM w' m (repl key val es) → w.grownBy w' (some m) → w'.heap.size = w.heap.size → wpList P ops Q rest (a.put o.dst undef) w') : wpList P ops Q (o :: rest) a w := by
  refine wpList_plain hg fun K' hK' => ?_
  obtain ⟨w', hrun, r1, r2, r3⟩ := put_old h ht hk hn val
  unfold Oper.wp
  simp [execOp, hop, hm, hx, hv, hrun, Result.andThen]
  exact hK' _ _ (hK w' r1 r2 r3)
theorem wpList_del (hg : o.guard = none) (mo xo : Operand) (t k : TypeId) (hop : o.op = Op.call { callee := Callee.builtin Builtin.delete, args := #[mo, xo], argTypes := #[t, k] }) {e : TypeId} (ht : P.underlying t = some (.map k e)) (hk : P.underlying k = some .string) {m : Nat} {es : List Ent}
    (hm : a.eval mo = .map (some m)) (h : IsM w m es) (key : ByteArray) (hx : a.eval xo = .string key)
    (hK : ∀ w', IsM w' m (drop key es) → w.grownBy w' (some m) → w'.heap.size = w.heap.size → wpList P ops Q rest (a.put o.dst (.tuple #[])) w') : wpList P ops Q (o :: rest) a w := by
  refine wpList_plain hg fun K' hK' => ?_
  obtain ⟨w', hrun, r1, r2, r3⟩ := del_m h ht hk key o.type
  unfold Oper.wp
  simp [execOp, hop, resolve, invoke, builtin, hm, hx, hrun, Result.andThen]
  exact hK' _ _ (hK w' r1 r2 r3)
theorem wpList_range (hg : o.guard = none) (mo : Operand) (t : TypeId) (hop : o.op = Op.range t mo) {k e : TypeId} (ht : P.underlying t = some (.map k e)) {m : Nat} {es : List Ent}
    (hm : a.eval mo = .map (some m)) (h : IsM w m es)
    (hK : ∀ w', Rng w' m w.heap.size es es → w.grownBy w' none → w'.heap.size = w.heap.size + 1 → wpList P ops Q rest (a.put o.dst (.pointer (some ⟨w.heap.size, 0, none⟩))) w') : wpList P ops Q (o :: rest) a w := by
  refine wpList_plain hg fun K' hK' => ?_
  obtain ⟨w', hrun, r1, r2, r3⟩ := range_m h ht
  unfold Oper.wp
  simp [execOp, hop, hm, hrun, Result.andThen]
  exact hK' _ _ (hK w' r1 r2 r3)
theorem wpList_next (hg : o.guard = none) (it : Operand) (hop : o.op = Op.next it false) {m r : Nat} {es left : List Ent} (hit : a.eval it = .pointer (some ⟨r, 0, none⟩)) (h : Rng w m r es left)
    (hDone : left = [] → wpList P ops Q rest (a.put o.dst (.tuple #[.bool false])) w)
    (hMore : ∀ (s : ByteArray) (x : Value) (left' : List Ent) (w' : World), ((s, x) :: left').Perm left → Rng w' m r es left' → w.grownBy w' (some r) → w'.heap.size = w.heap.size →
      (Instr.entry (.pointer (some ⟨r, 0, none⟩))).run P w' = .ok (.tuple #[.string s, x]) w' → wpList P ops Q rest (a.put o.dst (.tuple #[.bool true, .string s, x])) w') : wpList P ops Q (o :: rest) a w := by
  refine wpList_plain hg fun K' hK' => ?_
  unfold Oper.wp
  rcases h.next (P := P) o.type with ⟨h0, hrun⟩ | ⟨p, left', w', hp, hrun, hrg, hgr, hsz, hen⟩
  · simp [execOp, hop, hit, hrun, Result.andThen]
    exact hK' _ _ (hDone h0)
  · simp [execOp, hop, hit, hrun, Result.andThen]
    exact hK' _ _ (hMore p.1 p.2 left' w' hp hrg hgr hsz hen)
end
end Go.Proofs.Ytaefbibkkkglnaa.Mp
/- Frames: what may have changed between two worlds, told by the set of old blocks that may differ. No condition. -/
namespace Go.Proofs.Ytaefbibkkkglnaa.Fr
open Go.RowKit Go.Proofs.YtaefbibkkkglnaaW.PrintWords

/-- Of the old blocks only those of S may differ. -/
structure Only (S : Nat → Prop) (w w' : World) : Prop where
  os : w'.os = w.os
  tape : w'.tape = w.tape
  output : w'.output = w.output
  size : w.heap.size ≤ w'.heap.size
  block : ∀ k, k < w.heap.size → ¬ S k → w'.heap[k]? = w.heap[k]?

section
variable {S S' : Nat → Prop} {w w1 w2 : World} {B : Nat}
theorem Only.refl (S : Nat → Prop) (w : World) : Only S w w := ⟨rfl, rfl, rfl, Nat.le_refl _, fun _ _ _ => rfl⟩
theorem Only.trans (h : Only S w w1) (k : Only S w1 w2) : Only S w w2 :=
  ⟨k.os.trans h.os, k.tape.trans h.tape, k.output.trans h.output, Nat.le_trans h.size k.size, fun i hi hn => (k.block i (Nat.lt_of_lt_of_le hi h.size) hn).trans (h.block i hi hn)⟩
theorem Only.mono (h : Only S w w1) (hS : ∀ k, k < w.heap.size → S k → S' k) : Only S' w w1 :=
  ⟨h.os, h.tape, h.output, h.size, fun i hi hn => h.block i hi (fun hs => hn (hS i hi hs))⟩
/-- Two steps: what the second one may touch is of S, or was not there at the begin. -/
theorem Only.step (h : Only S w w1) (k : Only S' w1 w2) (hS : ∀ b, b < w.heap.size → S' b → S b) : Only S w w2 :=
  ⟨k.os.trans h.os, k.tape.trans h.tape, k.output.trans h.output, Nat.le_trans h.size k.size, fun i hi hn => (k.block i (Nat.lt_of_lt_of_le hi h.size) (fun hs => hn (hS i hi hs))).trans (h.block i hi hn)⟩
theorem Only.of_below (h : Below w.heap.size w w1) : Only S w w1 := ⟨h.os, h.tape, h.output, h.size, fun i hi _ => h.block i hi⟩
theorem Only.of_grown {r : Option Nat} (h : w.grownBy w1 r) : Only (fun k => some k = r) w w1 := ⟨h.os, h.tape, h.output, h.size, fun i hi hn => h.block i hi hn⟩
theorem Only.drewN (h : Only S w w1) (n : Nat) : Only S w (w1.drewN n) := ⟨h.os, h.tape, h.output, h.size, h.block⟩
theorem Only.drew (h : Only S w w1) : Only S w w1.drew := ⟨h.os, h.tape, h.output, h.size, h.block⟩
theorem Only.alloc (h : Only S w w1) (o : Obj) : Only S w (w1.alloc o) :=
  ⟨h.os, h.tape, h.output, by rw [World.size_alloc]; have := h.size; omega, fun i hi hn => (Below.heap_alloc w1 o i (Nat.lt_of_lt_of_le hi h.size)).trans (h.block i hi hn)⟩
theorem Only.set (h : Only S w w1) {p : Addr} (hp : p.block < w.heap.size → S p.block) (v : Value) : Only S w (w1.setCell p v) :=
  ⟨h.os, h.tape, h.output, by rw [World.size_setCell]; exact h.size, fun i hi hn => (Below.heap_setCell w1 p v i (fun e => hn (e ▸ hp (e ▸ hi)))).trans (h.block i hi hn)⟩
theorem Only.below (h : Only S w w1) (hS : ∀ k, k < w.heap.size → ¬ S k) : Below w.heap.size w w1 := ⟨h.os, h.tape, h.output, h.size, fun i hi => h.block i hi (hS i hi)⟩
/-- Below an older base: what may be touched lies from the base on. -/
theorem Only.below_of (h : Only S w1 w2) (hb : Below B w w1) (hB : B ≤ w1.heap.size) (hS : ∀ k, k < B → ¬ S k) : Below B w w2 :=
  ⟨h.os.trans hb.os, h.tape.trans hb.tape, h.output.trans hb.output, Nat.le_trans hb.size h.size, fun i hi => (h.block i (Nat.lt_of_lt_of_le hi hB) (hS i hi)).trans (hb.block i hi)⟩
theorem Only.blk (h : Only S w w1) {g : Nat} {o : Obj} (hg : w.heap[g]? = some o) (hn : ¬ S g) : w1.heap[g]? = some o := (h.block g (blk_lt hg) hn).trans hg
theorem Only.cell (h : Only S w w1) {a : Addr} {v : Value} (hc : w.cell? a = some v) (hn : ¬ S a.block) : w1.cell? a = some v := by
  have hl := World.block_lt_of_cell? w a hc
  rw [World.cell?_of_block (h.block _ hl hn)]
  exact hc
theorem Only.frozen (h : Only S w w1) {a : Addr} (hl : a.block < w.heap.size) (hn : ¬ S a.block) : w1.frozen? a = w.frozen? a := by
  unfold World.frozen?
  rw [h.block _ hl hn]
theorem R_only {α : Type} {d : Kd α} {e base : Nat} {ok : Nat → Prop} {v : Value} {xs : List α} (h : d.R e w base ok v xs) (k : Only S w w1) (hS : ∀ b, ok b → b < w.heap.size → (∃ q, q ∈ e :: d.E ∧ ∃ cells, w.heap[b]? = some (.cells cells q (0, 0))) → ¬ S b) : d.R e w1 base ok v xs :=
  Kd.R_mono (Kd.R_step (Kd.R_bound h) (fun b ho hl => k.block b hl (hS b ho.1 hl ho.2.2.2))) (fun _ ho => ho.1)
end
end Go.Proofs.Ytaefbibkkkglnaa.Fr
/- Wheel: a wheel in memory; what hang and unhang make of it. No condition. -/
namespace Go.Proofs.Ytaefbibkkkglnaa.Wh
open Go Go.RowKit Go.Proofs.YtaefbibkkkglnaaW.PrintWords Go.Proofs.Ytaefbibkkkglnaa.Mp Go.Proofs.Ytaefbibkkkglnaa.Fr
set_option linter.unusedVariables false
set_option linter.unusedSimpArgs false

def ptr (o : Option Nat) : Value := .pointer (o.map fun b => ⟨b, 0, none⟩)
def tcells (n : Node) (r : Int) (pv nx : Option Nat) : Array Value := #[.string n.id, .int .i64 n.tm, .int .i64 r, ptr pv, ptr nx]
def Tcell (w : World) (n : Node) (r : Int) (pv nx : Option Nat) : Prop := w.heap[n.b]? = some (.cells (tcells n r pv nx) 79 (0, 0))
def Seg (w : World) (r : Nat) : Option Nat → List Node → Option Nat → Prop
  | _, [], _ => True
  | pv, n :: ns, nx => Tcell w n r pv (hd nx ns) ∧ Seg w r (some n.b) ns nx
theorem Seg.move {w w' : World} {r : Nat} : ∀ {l : List Node} {pv nx : Option Nat}, Seg w r pv l nx → (∀ n ∈ l, w'.heap[n.b]? = w.heap[n.b]?) → Seg w' r pv l nx
  | [], _, _, _, _ => trivial
  | n :: ns, _, _, h, hm => ⟨(hm n (by simp)).trans h.1, Seg.move h.2 (fun q hq => hm q (by simp [hq]))⟩
theorem seg_append {w : World} {r : Nat} {ys : List Node} : ∀ {xs : List Node} {pv nx : Option Nat}, Seg w r pv (xs ++ ys) nx ↔ Seg w r pv xs (hd nx ys) ∧ Seg w r (last pv xs) ys nx
  | [], _, _ => by simp [Seg, last]
  | n :: xs, pv, nx => by
    show Tcell w n r pv (hd nx (xs ++ ys)) ∧ Seg w r (some n.b) (xs ++ ys) nx ↔ (Tcell w n r pv (hd (hd nx ys) xs) ∧ Seg w r (some n.b) xs (hd nx ys)) ∧ Seg w r (last (some n.b) xs) ys nx
    rw [seg_append, hd_append]
    exact ⟨fun ⟨a, b, c⟩ => ⟨⟨a, b⟩, c⟩, fun ⟨⟨a, b⟩, c⟩ => ⟨a, b, c⟩⟩
theorem Seg.mem {w : World} {r : Nat} {n : Node} : ∀ {l : List Node} {pv nx : Option Nat}, Seg w r pv l nx → n ∈ l → ∃ a b, Tcell w n r a b
  | [], _, _, _, h => by simp at h
  | m :: ns, _, _, h, hm => by
    rcases List.mem_cons.1 hm with rfl | hm
    · exact ⟨_, _, h.1⟩
    · exact Seg.mem h.2 hm

structure Head (w : World) (p m : Nat) (now : Int) (S : Slots) : Prop where
  cs : ∃ cs : Array Value, w.heap[p]? = some (.cells cs 73 (0, 0)) ∧ cs.size = 457 ∧ cs[0]? = some (.int .i64 now) ∧ (∀ r k, r < 7 → k < 64 → cs[1 + 64 * r + k]? = some (ptr (hd none (S r k)))) ∧ (∀ r, r < 7 → cs[449 + r]? = some (.int .i64 (cnt S r))) ∧ cs[456]? = some (.map (some m))
/-- The wheel at the block p: its names' map in the block m, the timers that hang, S, and those that hang nowhere, F; all its blocks are among O. -/
structure Rep (w : World) (O : Nat → Prop) (p m : Nat) (now : Int) (S : Slots) (F : List Node) : Prop where
  head : Head w p m now S
  seg : ∀ r k, r < 7 → k < 64 → Seg w r none (S r k) none
  loose : ∀ n ∈ F, ∃ r a b, Tcell w n r a b
  names : ∃ es, IsM w m es ∧ es.Perm ((F ++ nodes S).map fun n => (n.id, ptr (some n.b)))
  nodup : ((F ++ nodes S).map Node.b).Nodup
  own : O p ∧ O m ∧ ∀ n ∈ F ++ nodes S, O n.b

section
variable {w w' : World} {O : Nat → Prop} {p m : Nat} {now : Int} {S : Slots} {F : List Node}
theorem Head.lt (h : Head w p m now S) : p < w.heap.size := by
  obtain ⟨cs, h1, _⟩ := h.cs
  exact blk_lt h1
theorem Head.c0 (h : Head w p m now S) : w.cell? ⟨p, 0, none⟩ = some (.int .i64 now) := by
  obtain ⟨cs, h1, h2, h3, _⟩ := h.cs
  exact (blk_cell h1 0).trans h3
theorem Head.slot (h : Head w p m now S) {r k : Nat} (hr : r < 7) (hk : k < 64) : w.cell? ⟨p, 1 + 64 * r + k, none⟩ = some (ptr (hd none (S r k))) := by
  obtain ⟨cs, h1, h2, h3, h4, _⟩ := h.cs
  exact (blk_cell h1 _).trans (h4 r k hr hk)
theorem Head.count (h : Head w p m now S) {r : Nat} (hr : r < 7) : w.cell? ⟨p, 449 + r, none⟩ = some (.int .i64 (cnt S r)) := by
  obtain ⟨cs, h1, h2, h3, h4, h5, _⟩ := h.cs
  exact (blk_cell h1 _).trans (h5 r hr)
theorem Head.map (h : Head w p m now S) : w.cell? ⟨p, 456, none⟩ = some (.map (some m)) := by
  obtain ⟨cs, h1, h2, h3, h4, h5, h6⟩ := h.cs
  exact (blk_cell h1 _).trans h6
theorem Head.fz (h : Head w p m now S) (i : Nat) : w.frozen? ⟨p, i, none⟩ = false := by
  obtain ⟨cs, h1, _⟩ := h.cs
  exact blk_frozen h1 i
theorem Head.move (h : Head w p m now S) (hm : w'.heap[p]? = w.heap[p]?) : Head w' p m now S := by
  obtain ⟨cs, h1, h2⟩ := h.cs
  exact ⟨cs, hm.trans h1, h2⟩
theorem tcell_ne {n : Node} {r : Int} {a b : Option Nat} (h : Head w p m now S) (ht : Tcell w n r a b) : p ≠ n.b := by
  obtain ⟨cs, h1, _⟩ := h.cs
  exact blk_ne h1 ht (by decide)
theorem tcell_map {n : Node} {r : Int} {a b : Option Nat} {es : List Ent} (h : IsM w m es) (ht : Tcell w n r a b) : m ≠ n.b := fun e => h.noCells _ _ _ (by rw [e]; exact ht)
theorem Rep.tm (h : Rep w O p m now S F) {n : Node} (hn : n ∈ F ++ nodes S) : ∃ r a b, Tcell w n r a b := by
  rcases List.mem_append.1 hn with h1 | h1
  · exact h.loose n h1
  · obtain ⟨r, k, hr, hk, h2⟩ := mem_nodes.1 h1
    obtain ⟨a, b, h3⟩ := (h.seg r k hr hk).mem h2
    exact ⟨r, a, b, h3⟩
theorem Rep.pne (h : Rep w O p m now S F) {n : Node} (hn : n ∈ F ++ nodes S) : p ≠ n.b := by
  obtain ⟨r, a, b, ht⟩ := h.tm hn
  exact tcell_ne h.head ht
theorem Rep.mne (h : Rep w O p m now S F) {n : Node} (hn : n ∈ F ++ nodes S) : m ≠ n.b := by
  obtain ⟨r, a, b, ht⟩ := h.tm hn
  obtain ⟨es, he, _⟩ := h.names
  exact tcell_map he ht
theorem Rep.pm (h : Rep w O p m now S F) : m ≠ p := fun e => by
  obtain ⟨es, he, _⟩ := h.names
  obtain ⟨cs, h1, _⟩ := h.head.cs
  exact he.noCells _ _ _ (by rw [e]; exact h1)
/-- Every block of the wheel's stays. -/
theorem Rep.move (h : Rep w O p m now S F) (hm : ∀ b, O b → b < w.heap.size → w'.heap[b]? = w.heap[b]?) : Rep w' O p m now S F := by
  obtain ⟨o1, o2, o3⟩ := h.own
  have hb : ∀ n ∈ F ++ nodes S, w'.heap[n.b]? = w.heap[n.b]? := fun n hn => by
    obtain ⟨r, a, b, ht⟩ := h.tm hn
    exact hm _ (o3 n hn) (blk_lt ht)
  refine ⟨h.head.move (hm p o1 h.head.lt), fun r k hr hk => (h.seg r k hr hk).move (fun n hn => hb n (List.mem_append_right _ (mem_nodes.2 ⟨r, k, hr, hk, hn⟩))), fun n hn => ?_, ?_, h.nodup, h.own⟩
  · obtain ⟨r, a, b, ht⟩ := h.loose n hn
    exact ⟨r, a, b, (hb n (List.mem_append_left _ hn)).trans ht⟩
  · obtain ⟨es, he, hp⟩ := h.names
    exact ⟨es, he.move (hm m o2 he.lt), hp⟩
theorem Rep.drewN (h : Rep w O p m now S F) (n : Nat) : Rep (w.drewN n) O p m now S F := h.move (fun _ _ _ => rfl)
theorem Rep.below (h : Rep w O p m now S F) (hb : Below w.heap.size w w') : Rep w' O p m now S F := h.move (fun b _ hl => hb.block b hl)
theorem Rep.weaken {O' : Nat → Prop} (h : Rep w O p m now S F) (ho : ∀ b, O b → O' b) : Rep w O' p m now S F :=
  ⟨h.head, h.seg, h.loose, h.names, h.nodup, ho _ h.own.1, ho _ h.own.2.1, fun n hn => ho _ (h.own.2.2 n hn)⟩

/-! ### hang -/
theorem nb_inj {l : List Node} (h : (l.map Node.b).Nodup) {n q : Node} (hn : n ∈ l) (hq : q ∈ l) (e : n.b = q.b) : n = q := by
  obtain ⟨i, hi⟩ := List.getElem?_of_mem hn
  obtain ⟨j, hj⟩ := List.getElem?_of_mem hq
  have h1 : (l.map Node.b)[i]? = some n.b := by simp [hi]
  have h2 : (l.map Node.b)[j]? = some n.b := by simp [hj, e]
  have hl := (List.getElem?_eq_some_iff.1 h1).1
  have : i = j := (List.getElem?_inj hl h).1 (h1.trans h2.symm)
  subst this
  rw [hi] at hj
  injection hj
theorem head_set {cs : Array Value} {r k : Nat} {L : List Node} (hr : r < 7) (hk : k < 64) (h2 : cs.size = 457) (h3 : cs[0]? = some (.int .i64 now)) (h4 : ∀ r k, r < 7 → k < 64 → cs[1 + 64 * r + k]? = some (ptr (hd none (S r k))))
    (h5 : ∀ r, r < 7 → cs[449 + r]? = some (.int .i64 (cnt S r))) (h6 : cs[456]? = some (.map (some m))) :
    (((cs.setIfInBounds (1 + 64 * r + k) (ptr (hd none L))).setIfInBounds (449 + r) (.int .i64 (cnt (upd S r k L) r))).size = 457) ∧
    ((cs.setIfInBounds (1 + 64 * r + k) (ptr (hd none L))).setIfInBounds (449 + r) (.int .i64 (cnt (upd S r k L) r)))[0]? = some (.int .i64 now) ∧
    (∀ r' k', r' < 7 → k' < 64 → ((cs.setIfInBounds (1 + 64 * r + k) (ptr (hd none L))).setIfInBounds (449 + r) (.int .i64 (cnt (upd S r k L) r)))[1 + 64 * r' + k']? = some (ptr (hd none (upd S r k L r' k')))) ∧
    (∀ r', r' < 7 → ((cs.setIfInBounds (1 + 64 * r + k) (ptr (hd none L))).setIfInBounds (449 + r) (.int .i64 (cnt (upd S r k L) r)))[449 + r']? = some (.int .i64 (cnt (upd S r k L) r'))) ∧
    ((cs.setIfInBounds (1 + 64 * r + k) (ptr (hd none L))).setIfInBounds (449 + r) (.int .i64 (cnt (upd S r k L) r)))[456]? = some (.map (some m)) := by
  refine ⟨by simp [h2], ?_, fun r' k' hr' hk' => ?_, fun r' hr' => ?_, ?_⟩
  · rw [Array.getElem?_setIfInBounds_ne (by omega), Array.getElem?_setIfInBounds_ne (by omega), h3]
  · rw [Array.getElem?_setIfInBounds_ne (by omega)]
    by_cases e : r' = r ∧ k' = k
    · obtain ⟨rfl, rfl⟩ := e
      rw [Array.getElem?_setIfInBounds_self_of_lt (by omega), upd_same]
    · rw [Array.getElem?_setIfInBounds_ne (by omega), h4 r' k' hr' hk', upd_other e]
  · by_cases e : r' = r
    · subst e
      rw [Array.getElem?_setIfInBounds_self_of_lt (by simp; omega)]
    · rw [Array.getElem?_setIfInBounds_ne (by omega), Array.getElem?_setIfInBounds_ne (by omega), h5 r' hr', cnt_other L e]
  · rw [Array.getElem?_setIfInBounds_ne (by omega), Array.getElem?_setIfInBounds_ne (by omega), h6]

/-- hang, by what becomes of the blocks. -/
theorem Rep.hang {t : Node} {r k : Nat} (h : Rep w O p m now S (t :: F)) (hr : r < 7) (hk : k < 64)
    (hp : ∀ cs, w.heap[p]? = some (.cells cs 73 (0, 0)) → w'.heap[p]? = some (.cells ((cs.setIfInBounds (1 + 64 * r + k) (ptr (some t.b))).setIfInBounds (449 + r) (.int .i64 (cnt S r + 1 : Nat))) 73 (0, 0)))
    (ht : Tcell w' t r none (hd none (S r k)))
    (hh : ∀ y ys, S r k = y :: ys → Tcell w' y r (some t.b) (hd none ys))
    (ho : ∀ b, b ≠ p → b ≠ t.b → (∀ y ys, S r k = y :: ys → b ≠ y.b) → w'.heap[b]? = w.heap[b]?) : Rep w' O p m now (upd S r k (t :: S r k)) F := by
  have hperm : ((F ++ nodes (upd S r k (t :: S r k)))).Perm ((t :: F) ++ nodes S) := ((nodes_in hr hk).append_left F).trans List.perm_middle
  have hin : ∀ {n : Node} {r' k'}, r' < 7 → k' < 64 → n ∈ S r' k' → n ∈ (t :: F) ++ nodes S := fun hr' hk' hn => List.mem_append_right _ (mem_nodes.2 ⟨_, _, hr', hk', hn⟩)
  have hinj : ∀ {n q : Node}, n ∈ (t :: F) ++ nodes S → q ∈ (t :: F) ++ nodes S → n.b = q.b → n = q := fun hn hq e => nb_inj h.nodup hn hq e
  have htn : ∀ {n : Node}, n ∈ F ++ nodes S → n.b ≠ t.b := fun {n} hn e => by
    have hnd : (t.b :: (F ++ nodes S).map Node.b).Nodup := h.nodup
    exact (List.nodup_cons.1 hnd).1 (e ▸ List.mem_map.2 ⟨n, hn, rfl⟩)
  have hslot : ∀ {n : Node} {r' k'}, r' < 7 → k' < 64 → n ∈ S r' k' → (r' = r ∧ k' = k) ∨ ∀ y ys, S r k = y :: ys → n.b ≠ y.b := fun {n r' k'} hr' hk' hn => by
    by_cases e : r' = r ∧ k' = k
    · exact .inl e
    · right
      intro y ys hy hb
      -- n and y would be one timer in two slots
      have hy' : y ∈ S r k := by rw [hy]; simp
      have hnd : ((nodes S).map Node.b).Nodup := by
        have := h.nodup
        rw [List.map_append] at this
        exact (List.nodup_append.1 this).2.1
      have hn' : n ∈ nodes (upd S r k []) := mem_nodes.2 ⟨r', k', hr', hk', by rw [upd_other e]; exact hn⟩
      have h1 := nodes_upd (S := S) (r := r) (k := k) [] hr hk
      rw [List.append_nil] at h1
      have h2 := (h1.map Node.b).nodup_iff.2 hnd
      rw [List.map_append] at h2
      exact (List.nodup_append.1 h2).2.2 _ (List.mem_map.2 ⟨n, hn', rfl⟩) _ (List.mem_map.2 ⟨y, hy', rfl⟩) hb
  refine ⟨⟨?_⟩, fun r' k' hr' hk' => ?_, fun n hn => ?_, ?_, ?_, h.own.1, h.own.2.1, fun n hn => h.own.2.2 n (hperm.mem_iff.1 hn)⟩
  · obtain ⟨cs, h1, h2, h3, h4, h5, h6⟩ := h.head.cs
    have hc : cnt (upd S r k (t :: S r k)) r = cnt S r + 1 := by
      have := cnt_upd (S := S) (r := r) (t :: S r k) hk
      simp at this
      omega
    have hs := head_set (L := t :: S r k) hr hk h2 h3 h4 h5 h6
    rw [hc] at hs
    exact ⟨_, hp cs h1, hs⟩
  · by_cases e : r' = r ∧ k' = k
    · obtain ⟨rfl, rfl⟩ := e
      rw [upd_same]
      refine ⟨ht, ?_⟩
      cases hS : S r' k' with
      | nil => trivial
      | cons y ys =>
        have hseg := h.seg r' k' hr' hk'
        rw [hS] at hseg
        refine ⟨hh y ys hS, hseg.2.move (fun n hn => ho _ (h.pne (hin hr' hk' (by rw [hS]; simp [hn]))).symm (htn (List.mem_append_right _ (mem_nodes.2 ⟨r', k', hr', hk', by rw [hS]; simp [hn]⟩))) (fun y' ys' hy' => ?_))⟩
        rw [hS] at hy'
        injection hy' with hy' _
        subst hy'
        -- n stands behind y in the slot
        have hnd : ((nodes S).map Node.b).Nodup := by
          have := h.nodup
          rw [List.map_append] at this
          exact (List.nodup_append.1 this).2.1
        have h1 := nodes_upd (S := S) (r := r') (k := k') [] hr' hk'
        rw [List.append_nil, hS] at h1
        have h2 := (h1.map Node.b).nodup_iff.2 hnd
        rw [List.map_append] at h2
        have h3 := (List.nodup_append.1 h2).2.1
        exact fun e => (List.nodup_cons.1 (show (y.b :: ys.map Node.b).Nodup from h3)).1 (e ▸ List.mem_map.2 ⟨n, hn, rfl⟩)
    · rw [upd_other e]
      refine (h.seg r' k' hr' hk').move (fun n hn => ho _ (h.pne (hin hr' hk' hn)).symm (htn (List.mem_append_right _ (mem_nodes.2 ⟨r', k', hr', hk', hn⟩))) ?_)
      rcases hslot hr' hk' hn with h1 | h1
      · exact absurd h1 e
      · exact h1
  · obtain ⟨r0, a, b, h0⟩ := h.loose n (by simp [hn])
    refine ⟨r0, a, b, (ho _ (tcell_ne h.head h0).symm (htn (List.mem_append_left _ hn)) (fun y ys hy hb => ?_)).trans h0⟩
    have hy' : y ∈ nodes S := mem_nodes.2 ⟨r, k, hr, hk, by rw [hy]; simp⟩
    have hnd : ((F ++ nodes S).map Node.b).Nodup := (List.nodup_cons.1 (show (t.b :: (F ++ nodes S).map Node.b).Nodup from h.nodup)).2
    rw [List.map_append] at hnd
    exact (List.nodup_append.1 hnd).2.2 _ (List.mem_map.2 ⟨n, hn, rfl⟩) _ (List.mem_map.2 ⟨y, hy', rfl⟩) hb
  · obtain ⟨es, he, hpm⟩ := h.names
    refine ⟨es, he.move (ho _ h.pm (h.mne (n := t) (by simp)) (fun y ys hy => h.mne (hin hr hk (by rw [hy]; simp)))), hpm.trans (hperm.map _).symm⟩
  · exact (hperm.map Node.b).nodup_iff.2 h.nodup
/-- unhang, by what becomes of the blocks. -/
theorem Rep.unhang {t : Node} {r k : Nat} {xs ys : List Node} (h : Rep w O p m now S F) (hr : r < 7) (hk : k < 64) (hS : S r k = xs ++ t :: ys)
    (hp : ∀ cs, w.heap[p]? = some (.cells cs 73 (0, 0)) → w'.heap[p]? = some (.cells ((cs.setIfInBounds (1 + 64 * r + k) (ptr (hd none (xs ++ ys)))).setIfInBounds (449 + r) (.int .i64 (cnt S r - 1 : Nat))) 73 (0, 0)))
    (hseg : Seg w' r none (xs ++ ys) none)
    (ho : ∀ b, b ≠ p → (∀ n ∈ xs ++ ys, b ≠ n.b) → w'.heap[b]? = w.heap[b]?) : Rep w' O p m now (upd S r k (xs ++ ys)) (t :: F) := by
  have hperm : ((t :: F) ++ nodes (upd S r k (xs ++ ys))).Perm (F ++ nodes S) := by
    refine List.Perm.trans ?_ ((nodes_out hr hk hS).append_left F)
    exact List.perm_middle.symm
  have hnd0 := h.nodup
  rw [List.map_append] at hnd0
  obtain ⟨hndF, hndS, hdis⟩ := List.nodup_append.1 hnd0
  have hsl : ∀ {n : Node}, n ∈ xs ++ ys → n ∈ S r k := fun {n} hn => by
    rw [hS]
    rcases List.mem_append.1 hn with h1 | h1
    · exact List.mem_append_left _ h1
    · exact List.mem_append_right _ (by simp [h1])
  have hts : t ∈ S r k := by rw [hS]; simp
  have hsub : ((xs ++ ys).map Node.b).Nodup ∧ ∀ n ∈ xs ++ ys, n.b ≠ t.b := by
    have h1 := nodes_upd (S := S) (r := r) (k := k) [] hr hk
    rw [List.append_nil, hS] at h1
    have h2 := (h1.map Node.b).nodup_iff.2 hndS
    rw [List.map_append] at h2
    have h3 := (List.nodup_append.1 h2).2.1
    have h4 : ((xs ++ t :: ys).map Node.b).Perm (t.b :: (xs ++ ys).map Node.b) := (List.perm_middle (l₁ := xs) (a := t) (l₂ := ys)).map Node.b
    have h5 := List.nodup_cons.1 (h4.nodup_iff.1 h3)
    exact ⟨h5.2, fun n hn e => h5.1 (e ▸ List.mem_map.2 ⟨n, hn, rfl⟩)⟩
  have hother : ∀ {n : Node} {r' k'}, r' < 7 → k' < 64 → n ∈ S r' k' → ¬ (r' = r ∧ k' = k) → ∀ q ∈ S r k, n.b ≠ q.b := fun {n r' k'} hr' hk' hn e q hq hb => by
    have hn' : n ∈ nodes (upd S r k []) := mem_nodes.2 ⟨r', k', hr', hk', by rw [upd_other e]; exact hn⟩
    have h1 := nodes_upd (S := S) (r := r) (k := k) [] hr hk
    rw [List.append_nil] at h1
    have h2 := (h1.map Node.b).nodup_iff.2 hndS
    rw [List.map_append] at h2
    exact (List.nodup_append.1 h2).2.2 _ (List.mem_map.2 ⟨n, hn', rfl⟩) _ (List.mem_map.2 ⟨q, hq, rfl⟩) hb
  refine ⟨⟨?_⟩, fun r' k' hr' hk' => ?_, fun n hn => ?_, ?_, ?_, h.own.1, h.own.2.1, fun n hn => h.own.2.2 n (hperm.mem_iff.1 hn)⟩
  · obtain ⟨cs, h1, h2, h3, h4, h5, h6⟩ := h.head.cs
    have hc : cnt (upd S r k (xs ++ ys)) r = cnt S r - 1 := by
      have := cnt_upd (S := S) (r := r) (xs ++ ys) hk
      rw [hS] at this
      simp at this
      omega
    have hs := head_set (L := xs ++ ys) hr hk h2 h3 h4 h5 h6
    rw [hc] at hs
    exact ⟨_, hp cs h1, hs⟩
  · by_cases e : r' = r ∧ k' = k
    · obtain ⟨rfl, rfl⟩ := e
      rw [upd_same]
      exact hseg
    · rw [upd_other e]
      exact (h.seg r' k' hr' hk').move (fun n hn => ho _ (h.pne (List.mem_append_right _ (mem_nodes.2 ⟨r', k', hr', hk', hn⟩))).symm (fun q hq => hother hr' hk' hn e q (hsl hq)))
  · rcases List.mem_cons.1 hn with rfl | hn
    · obtain ⟨a, b, h0⟩ := (h.seg r k hr hk).mem hts
      exact ⟨r, a, b, (ho _ (tcell_ne h.head h0).symm (fun q hq => (hsub.2 q hq).symm)).trans h0⟩
    · obtain ⟨r0, a, b, h0⟩ := h.loose n hn
      exact ⟨r0, a, b, (ho _ (tcell_ne h.head h0).symm (fun q hq hb => hdis _ (List.mem_map.2 ⟨n, hn, rfl⟩) _ (List.mem_map.2 ⟨q, mem_nodes.2 ⟨r, k, hr, hk, hsl hq⟩, rfl⟩) hb)).trans h0⟩
  · obtain ⟨es, he, hpm⟩ := h.names
    refine ⟨es, he.move (ho _ h.pm (fun q hq => h.mne (List.mem_append_right _ (mem_nodes.2 ⟨r, k, hr, hk, hsl hq⟩)))), hpm.trans (hperm.map _).symm⟩
  · exact (hperm.map Node.b).nodup_iff.2 h.nodup
end
end Go.Proofs.Ytaefbibkkkglnaa.Wh
/- Wheel: hang and unhang, by a wheel in memory. No condition. -/
namespace Go.Proofs.Ytaefbibkkkglnaa.Wh
open Go Go.RowKit Go.Proofs.YtaefbibkkkglnaaW.PrintWords Go.Proofs.Ytaefbibkkkglnaa.Mp Go.Proofs.Ytaefbibkkkglnaa.Fr
set_option linter.unusedVariables false
set_option linter.unusedSimpArgs false

section
variable {w w' : World} {O : Nat → Prop} {p m : Nat} {now : Int} {S : Slots} {F : List Node}
theorem set_here {cs : Array Value} {i : Nat} {v : Value} (h : cs[i]? = some v) : cs.setIfInBounds i v = cs := by
  apply Array.ext_getElem?
  intro j
  by_cases e : i = j
  · subst e
    have hl : i < cs.size := (Array.getElem?_eq_some_iff.1 h).1
    rw [Array.getElem?_setIfInBounds_self_of_lt hl, h]
  · rw [Array.getElem?_setIfInBounds_ne e]

theorem Tcell.c {n : Node} {r : Int} {a b : Option Nat} (h : Tcell w n r a b) : w.cell? ⟨n.b, 0, none⟩ = some (.string n.id) ∧ w.cell? ⟨n.b, 1, none⟩ = some (.int .i64 n.tm) ∧ w.cell? ⟨n.b, 2, none⟩ = some (.int .i64 r) ∧ w.cell? ⟨n.b, 3, none⟩ = some (ptr a) ∧ w.cell? ⟨n.b, 4, none⟩ = some (ptr b) ∧ ∀ i, w.frozen? ⟨n.b, i, none⟩ = false :=
  ⟨(blk_cell h 0).trans rfl, (blk_cell h 1).trans rfl, (blk_cell h 2).trans rfl, (blk_cell h 3).trans rfl, (blk_cell h 4).trans rfl, fun i => blk_frozen h i⟩

set_option maxHeartbeats 1000000 in
theorem hang_calls {t : Node} (h : Rep w O p m now S (t :: F)) (ht0 : 0 ≤ t.tm) (ht1 : t.tm ≤ 1099511627776) (hn0 : 0 ≤ now) (hn1 : now ≤ 1099511627776) (hlen : (nodes S).length ≤ 1000000) :
    Calls Try.prog 32 #[.pointer (some ⟨p, 0, none⟩), .pointer (some ⟨t.b, 0, none⟩)] w fun e w' =>
      e = .returned (.tuple #[]) ∧ Rep w' O p m now (upd S (rg t.tm now) (dg (rg t.tm now) t.tm) (t :: S (rg t.tm now) (dg (rg t.tm now) t.tm))) F ∧ Only O w w' := by
  have hr : rg t.tm now < 7 := ring_lt (by omega) (by omega)
  have hk : dg (rg t.tm now) t.tm < 64 := dig_lt _ _
  have htm : t ∈ (t :: F) ++ nodes S := by simp
  have hpb := h.pne htm
  obtain ⟨r0, a0, b0, h0⟩ := h.loose t (by simp)
  obtain ⟨c0, c1, c2, c3, c4, fz⟩ := h0.c
  have d1 := h.head.slot hr hk
  have d2 := h.head.count hr
  have hcl := cnt_le (S := S) hr
  obtain ⟨o1, o2, o3⟩ := h.own
  have ob : O t.b := o3 t htm
  cases hS : S (rg t.tm now) (dg (rg t.tm now) t.tm) with
  | nil =>
    rw [hS] at d1
    refine (hang_nil p t.b t.tm now _ w _ _ _ ht0 ht1 hn0 hn1 hr (Int.natCast_nonneg _) (by omega) hpb hpb.symm c1 c2 c3 c4 fz h.head.fz h.head.c0 d1 d2).mono ?_
    rintro e w' ⟨rfl, n, rfl⟩
    refine ⟨rfl, ?_, ?_⟩
    · rw [← hS]
      refine Rep.hang h hr hk (fun cs h1 => ?_) ?_ (fun y ys hy => ?_) (fun b hb1 hb2 _ => ?_)
      · exact blk_drewN (blk_set (blk_set (blk_far (blk_far (blk_far h1 hpb _) hpb _) hpb _) _ _) _ _) n
      · rw [hS]
        exact blk_drewN (blk_far (blk_far (blk_set (blk_set (blk_set h0 2 _) 3 _) 4 _) hpb.symm _) hpb.symm _) n
      · rw [hS] at hy; cases hy
      · rw [World.heap_drewN]
        rw [Below.heap_setCell _ _ _ _ hb1, Below.heap_setCell _ _ _ _ hb1, Below.heap_setCell _ _ _ _ hb2, Below.heap_setCell _ _ _ _ hb2, Below.heap_setCell _ _ _ _ hb2]
    · exact ((((((Only.refl O w).set (fun _ => ob) _).set (fun _ => ob) _).set (fun _ => ob) _).set (fun _ => o1) _).set (fun _ => o1) _).drewN n
  | cons y ys =>
    rw [hS] at d1
    have hyS : y ∈ S (rg t.tm now) (dg (rg t.tm now) t.tm) := by rw [hS]; simp
    have hyn : y ∈ nodes S := mem_nodes.2 ⟨_, _, hr, hk, hyS⟩
    have hym : y ∈ (t :: F) ++ nodes S := List.mem_append_right _ hyn
    have hpy := h.pne hym
    have hty : t.b ≠ y.b := fun e => (List.nodup_cons.1 (show (t.b :: (F ++ nodes S).map Node.b).Nodup from h.nodup)).1 (List.mem_map.2 ⟨y, List.mem_append_right _ hyn, e.symm⟩)
    have hseg := h.seg _ _ hr hk
    rw [hS] at hseg
    obtain ⟨hy, hys⟩ := hseg
    obtain ⟨_, _, _, y3, _, fy⟩ := hy.c
    have oy : O y.b := o3 y hym
    refine (hang_some p t.b y.b t.tm now _ w _ _ _ _ ht0 ht1 hn0 hn1 hr (Int.natCast_nonneg _) (by omega) hpb hpb.symm hty.symm hty hpy hpy.symm y3 fy c1 c2 c3 c4 fz h.head.fz h.head.c0 d1 d2).mono ?_
    rintro e w' ⟨rfl, n, rfl⟩
    refine ⟨rfl, ?_, ?_⟩
    · rw [← hS]
      refine Rep.hang h hr hk (fun cs h1 => ?_) ?_ (fun y' ys' hy' => ?_) (fun b hb1 hb2 hb3 => ?_)
      · exact blk_drewN (blk_set (blk_set (blk_far (blk_far (blk_far (blk_far h1 hpb _) hpb _) hpb _) hpy _) _ _) _ _) n
      · rw [hS]
        exact blk_drewN (blk_far (blk_far (blk_far (blk_set (blk_set (blk_set h0 2 _) 3 _) 4 _) hty _) hpb.symm _) hpb.symm _) n
      · rw [hS] at hy'
        obtain ⟨e1, e2⟩ := List.cons.inj hy'
        rw [← e1, ← e2]
        unfold Tcell
        rw [World.heap_drewN, Below.heap_setCell _ _ _ _ hpy.symm, Below.heap_setCell _ _ _ _ hpy.symm]
        exact blk_set (blk_far (blk_far (blk_far hy hty.symm _) hty.symm _) hty.symm _) 3 _
      · have hb4 := hb3 y ys hS
        rw [World.heap_drewN]
        rw [Below.heap_setCell _ _ _ _ hb1, Below.heap_setCell _ _ _ _ hb1, Below.heap_setCell _ _ _ _ hb4, Below.heap_setCell _ _ _ _ hb2, Below.heap_setCell _ _ _ _ hb2, Below.heap_setCell _ _ _ _ hb2]
    · exact (((((((Only.refl O w).set (fun _ => ob) _).set (fun _ => ob) _).set (fun _ => ob) _).set (fun _ => oy) _).set (fun _ => o1) _).set (fun _ => o1) _).drewN n

theorem last_snoc (pv : Option Nat) (x : Node) : ∀ xs : List Node, last pv (xs ++ [x]) = some x.b := fun xs => by rw [last_append]; rfl

set_option maxHeartbeats 2000000 in
theorem unhang_calls {t : Node} {r : Nat} {xs ys : List Node} (h : Rep w O p m now S F) (hr : r < 7) (ht0 : 0 ≤ t.tm) (ht1 : t.tm ≤ 1099511627776) (hS : S r (dg r t.tm) = xs ++ t :: ys) (hlen : (nodes S).length ≤ 1000000) :
    Calls Try.prog 31 #[.pointer (some ⟨p, 0, none⟩), .pointer (some ⟨t.b, 0, none⟩)] w fun e w' =>
      e = .returned (.tuple #[]) ∧ Rep w' O p m now (upd S r (dg r t.tm) (xs ++ ys)) (t :: F) ∧ Only O w w' := by
  have hk : dg r t.tm < 64 := dig_lt _ _
  generalize hkk : dg r t.tm = k at *
  obtain ⟨o1, o2, o3⟩ := h.own
  have hin : ∀ {n : Node}, n ∈ S r k → n ∈ F ++ nodes S := fun hn => List.mem_append_right _ (mem_nodes.2 ⟨_, _, hr, hk, hn⟩)
  have htS : t ∈ S r k := by rw [hS]; simp
  have hpb := h.pne (hin htS)
  have hseg := h.seg r k hr hk
  rw [hS, seg_append] at hseg
  obtain ⟨hxs, ht, hys⟩ := hseg
  obtain ⟨c0, c1, c2, c3, c4, fz⟩ := ht.c
  have d1 := h.head.slot hr hk
  have d2 := h.head.count hr
  have hcl := cnt_le (S := S) hr
  have hc1 : 1 ≤ cnt S r := by
    have := slot_le (S := S) (r := r) hk
    rw [hS] at this
    simp at this
    omega
  have hcc : ((cnt S r : Int) - 1) = ((cnt S r - 1 : Nat) : Int) := by omega
  -- the timers of the slot are apart
  have hnd : ((xs ++ t :: ys).map Node.b).Nodup := by
    have h0 := h.nodup
    rw [List.map_append] at h0
    have h1 := nodes_upd (S := S) (r := r) (k := k) [] hr hk
    rw [List.append_nil, hS] at h1
    have h2 := (h1.map Node.b).nodup_iff.2 (List.nodup_append.1 h0).2.1
    rw [List.map_append] at h2
    exact (List.nodup_append.1 h2).2.1
  have hS' : ∀ {n : Node}, n ∈ xs ++ t :: ys → n ∈ S r k := fun hn => by rw [hS]; exact hn
  rcases (by rcases List.eq_nil_or_concat xs with h0 | ⟨xs', x, h0⟩; exact .inl h0; exact .inr ⟨xs', x, by rw [h0, List.concat_eq_append]⟩ : xs = [] ∨ ∃ xs' x, xs = xs' ++ [x]) with rfl | ⟨xs', x, rfl⟩
  · cases ys with
    | nil =>
      refine (unhang_nn p t.b r t.tm _ w _ ht0 ht1 hr (Int.natCast_nonneg _) (by omega) hpb hpb.symm c1 c2 c3 c4 h.head.fz (by rw [hkk]; exact d1) d2).mono ?_
      rintro e w' ⟨rfl, n, rfl⟩
      rw [hkk, hcc]
      refine ⟨rfl, Rep.unhang h hr hk hS (fun cs h1 => ?_) trivial (fun b hb1 _ => ?_), ?_⟩
      · exact blk_drewN (blk_set (blk_set h1 _ _) _ _) n
      · rw [World.heap_drewN]
        rw [Below.heap_setCell _ _ _ _ hb1, Below.heap_setCell _ _ _ _ hb1]
      · exact (((Only.refl O w).set (fun _ => o1) _).set (fun _ => o1) _).drewN n
    | cons y ys =>
      have hyS : y ∈ S r k := hS' (by simp)
      have hpy := h.pne (hin hyS)
      have hty : t.b ≠ y.b := fun e => by
        have h1 := List.nodup_cons.1 (show (t.b :: (y :: ys).map Node.b).Nodup from hnd)
        exact h1.1 (by rw [e]; simp)
      obtain ⟨hy, hys⟩ := hys
      obtain ⟨_, _, _, y3, _, fy⟩ := hy.c
      refine (unhang_ns p t.b y.b r t.tm _ w _ _ ht0 ht1 hr (Int.natCast_nonneg _) (by omega) hpb hpb.symm hty.symm hty hpy hpy.symm y3 fy c1 c2 c3 c4 h.head.fz (by rw [hkk]; exact d1) d2).mono ?_
      rintro e w' ⟨rfl, n, rfl⟩
      rw [hkk, hcc]
      have hyy : ∀ q ∈ ys, q.b ≠ y.b := fun q hq e => by
        have h1 := (List.nodup_cons.1 (show (t.b :: (y :: ys).map Node.b).Nodup from hnd)).2
        exact (List.nodup_cons.1 (show (y.b :: ys.map Node.b).Nodup from h1)).1 (e ▸ List.mem_map.2 ⟨q, hq, rfl⟩)
      refine ⟨rfl, Rep.unhang h hr hk hS (fun cs h1 => ?_) ⟨?_, hys.move (fun q hq => ?_)⟩ (fun b hb1 hb2 => ?_), ?_⟩
      · exact blk_drewN (blk_set (blk_set (blk_far h1 hpy _) _ _) _ _) n
      · exact blk_drewN (blk_far (blk_far (blk_set hy 3 _) hpy.symm _) hpy.symm _) n
      · have hpq := (h.pne (hin (hS' (n := q) (by simp [hq])))).symm
        rw [World.heap_drewN]
        rw [Below.heap_setCell _ _ _ _ hpq, Below.heap_setCell _ _ _ _ hpq, Below.heap_setCell _ _ _ _ (hyy q hq)]
      · rw [World.heap_drewN]
        rw [Below.heap_setCell _ _ _ _ hb1, Below.heap_setCell _ _ _ _ hb1, Below.heap_setCell _ _ _ _ (hb2 y (by simp))]
      · exact ((((Only.refl O w).set (fun _ => o3 y (hin hyS)) _).set (fun _ => o1) _).set (fun _ => o1) _).drewN n
  · rw [last_snoc] at c3 ht
    have hxS : x ∈ S r k := hS' (by simp)
    have hpx := h.pne (hin hxS)
    have hnd' : ((xs' ++ x :: t :: ys).map Node.b).Nodup := by
      have : xs' ++ x :: t :: ys = (xs' ++ [x]) ++ t :: ys := by simp
      rw [this]; exact hnd
    rw [List.map_append] at hnd'
    obtain ⟨n1, n2, n3⟩ := List.nodup_append.1 hnd'
    obtain ⟨n4, n5⟩ := List.nodup_cons.1 (show (x.b :: (t :: ys).map Node.b).Nodup from n2)
    have hxb : x.b ≠ t.b := fun e => n4 (by rw [e]; simp)
    have hxx : ∀ q ∈ xs', q.b ≠ x.b := fun q hq => n3 _ (List.mem_map.2 ⟨q, hq, rfl⟩) _ (by simp)
    have hxy : ∀ q ∈ ys, q.b ≠ x.b := fun q hq e => n4 (by rw [← e]; simp; exact .inr ⟨q, hq, rfl⟩)
    rw [seg_append] at hxs
    obtain ⟨hxs, hx, _⟩ := hxs
    obtain ⟨_, _, _, _, x4, fx⟩ := hx.c
    have hd1 : ∀ L, hd none (xs' ++ [x] ++ L) = hd none (xs' ++ [x]) := fun L => by cases xs' <;> rfl
    cases ys with
    | nil =>
      refine (unhang_sn p t.b x.b r t.tm _ w _ ht0 ht1 hr (Int.natCast_nonneg _) (by omega) hpb hpb.symm hxb hxb.symm hpx hpx.symm x4 fx c1 c2 c3 c4 h.head.fz d2).mono ?_
      rintro e w' ⟨rfl, n, rfl⟩
      rw [hcc]
      refine ⟨rfl, Rep.unhang h hr hk hS (fun cs h1 => ?_) ?_ (fun b hb1 hb2 => ?_), ?_⟩
      · rw [hd1, set_here (i := 1 + 64 * r + k) (by
          have := (blk_cell h1 (1 + 64 * r + k)).symm.trans d1
          rw [hS, hd1] at this
          exact this)]
        exact blk_drewN (blk_set (blk_far h1 hpx _) _ _) n
      · rw [List.append_nil, seg_append]
        refine ⟨hxs.move (fun q hq => ?_), ?_, trivial⟩
        · have hpq := (h.pne (hin (hS' (n := q) (by simp [hq])))).symm
          rw [World.heap_drewN]
          rw [Below.heap_setCell _ _ _ _ hpq, Below.heap_setCell _ _ _ _ (hxx q hq)]
        · exact blk_drewN (blk_far (blk_set hx 4 _) hpx.symm _) n
      · rw [World.heap_drewN]
        rw [Below.heap_setCell _ _ _ _ hb1, Below.heap_setCell _ _ _ _ (hb2 x (by simp))]
      · exact (((Only.refl O w).set (fun _ => o3 x (hin hxS)) _).set (fun _ => o1) _).drewN n
    | cons y ys =>
      have hyS : y ∈ S r k := hS' (by simp)
      have hpy := h.pne (hin hyS)
      obtain ⟨n6, n7⟩ := List.nodup_cons.1 (show (t.b :: (y :: ys).map Node.b).Nodup from n5)
      have hty : t.b ≠ y.b := fun e => n6 (by rw [e]; simp)
      have hyx : y.b ≠ x.b := hxy y (by simp)
      have hyy : ∀ q ∈ ys, q.b ≠ y.b := fun q hq e => (List.nodup_cons.1 (show (y.b :: ys.map Node.b).Nodup from n7)).1 (e ▸ List.mem_map.2 ⟨q, hq, rfl⟩)
      obtain ⟨hy, hys⟩ := hys
      obtain ⟨_, _, _, y3, _, fy⟩ := hy.c
      refine (unhang_ss p t.b x.b y.b r t.tm _ w _ _ ht0 ht1 hr (Int.natCast_nonneg _) (by omega) hpb hpb.symm hxb hxb.symm hpx hpx.symm x4 fx hty.symm hty hpy hpy.symm y3 fy c1 c2 c3 c4 h.head.fz d2).mono ?_
      rintro e w' ⟨rfl, n, rfl⟩
      rw [hcc]
      refine ⟨rfl, Rep.unhang h hr hk hS (fun cs h1 => ?_) ?_ (fun b hb1 hb2 => ?_), ?_⟩
      · rw [hd1, set_here (i := 1 + 64 * r + k) (by
          have := (blk_cell h1 (1 + 64 * r + k)).symm.trans d1
          rw [hS, hd1] at this
          exact this)]
        exact blk_drewN (blk_set (blk_far (blk_far h1 hpy _) hpx _) _ _) n
      · rw [seg_append, seg_append]
        refine ⟨⟨hxs.move (fun q hq => ?_), ?_, trivial⟩, ?_, hys.move (fun q hq => ?_)⟩
        · have hpq := (h.pne (hin (hS' (n := q) (by simp [hq])))).symm
          have hqy : q.b ≠ y.b := n3 _ (List.mem_map.2 ⟨q, hq, rfl⟩) _ (by simp)
          rw [World.heap_drewN]
          rw [Below.heap_setCell _ _ _ _ hpq, Below.heap_setCell _ _ _ _ (hxx q hq), Below.heap_setCell _ _ _ _ hqy]
        · exact blk_drewN (blk_far (blk_set (blk_far hx hyx.symm _) 4 _) hpx.symm _) n
        · rw [last_snoc]
          exact blk_drewN (blk_far (blk_far (blk_set hy 3 _) hyx _) hpy.symm _) n
        · have hpq := (h.pne (hin (hS' (n := q) (by simp [hq])))).symm
          rw [World.heap_drewN]
          rw [Below.heap_setCell _ _ _ _ hpq, Below.heap_setCell _ _ _ _ (hxy q (by simp [hq])), Below.heap_setCell _ _ _ _ (hyy q hq)]
      · rw [World.heap_drewN]
        rw [Below.heap_setCell _ _ _ _ hb1, Below.heap_setCell _ _ _ _ (hb2 x (by simp)), Below.heap_setCell _ _ _ _ (hb2 y (by simp))]
      · exact ((((Only.refl O w).set (fun _ => o3 y (hin hyS)) _).set (fun _ => o3 x (hin hxS)) _).set (fun _ => o1) _).drewN n
end
end Go.Proofs.Ytaefbibkkkglnaa.Wh
