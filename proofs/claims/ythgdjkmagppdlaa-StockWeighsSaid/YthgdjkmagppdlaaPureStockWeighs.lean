/- StockWeighs, its pure statement: the program's weight of a state is the document's, whatever the state, and so is a Done's first reply. No condition. -/
import Derived.Test.YthgdjkmagppdlaaRdStockWeighs
namespace Go.Proofs.Ythgdjkmagppdlaa.Pure
set_option linter.unusedVariables false
set_option linter.unusedSimpArgs false
open Go.RowKit Go.Proofs.Ythgdjkmagppdlaa.QStockWeighs Go.Proofs.YthgdjkmagppdlaaW.PrintWords Go.Proofs.YthgdjkmagppdlaaW.PrintLast

theorem sw_l (a b : Int) : wrap64 (wrap64 a + b) = wrap64 (a + b) := by unfold wrap64; omega
theorem sw_l2 (a b c : Int) : wrap64 (wrap64 a + b + c) = wrap64 (a + b + c) := by unfold wrap64; omega
theorem sw_r (a b : Int) : wrap64 (a + wrap64 b) = wrap64 (a + b) := by unfold wrap64; omega
theorem sw_0 (x : Int) (h0 : -9223372036854775808 ≤ x) (h1 : x ≤ 9223372036854775807) : wrap64 x = x := by unfold wrap64; omega

/-- The sum of f over the next d places from i on. -/
def total (f : Int → Int) : Nat → Int → Int
  | 0, _ => 0
  | d + 1, i => f i + total f d (i + 1)

def lineF (l : List S72) (i : Int) : Int := 11 + ((rd_T72 l i).f0.size : Int)
def linesW (l : List S72) : Int := total (lineF l) l.length 0

theorem lines_tell (l : List S72) (hl : l.length ≤ 4611686018427387904) : ∀ (d : Nat) (i A : Int), 0 ≤ i → i + d = l.length → Ev (fun k => stock_linesWeigh.l0 k (wrap64 A) l l.length i) (wrap64 (A + total (lineF l) d i))
  | 0, i, A, h0, hd => Ev.step (f := fun _ => some (wrap64 A)) (fun k => by rw [stock_linesWeigh.l0, if_neg (by omega)]) (by rw [show A + total (lineF l) 0 i = A by simp [total]]; exact Ev.now _)
  | d + 1, i, A, h0, hd => by
    have ih := lines_tell l hl d (i + 1) (A + lineF l i) (by omega) (by omega)
    have e : A + total (lineF l) (d + 1) i = A + lineF l i + total (lineF l) d (i + 1) := by simp only [total]; omega
    rw [e]
    refine Ev.step (fun k => ?_) ih
    rw [stock_linesWeigh.l0, if_pos (by omega), if_pos h0, if_pos (by omega), sw_0 (i + 1) (by omega) (by omega), sw_l, sw_r]
    rfl

theorem rlines_tell (l : List S72) (hl : l.length ≤ 4611686018427387904) : ∀ (d : Nat) (i A : Int), 0 ≤ i → i + d = l.length → Ev (fun k => larderref12_linesWeigh.l0 k l (wrap64 A) i) (wrap64 (A + total (lineF l) d i))
  | 0, i, A, h0, hd => Ev.step (f := fun _ => some (wrap64 A)) (fun k => by rw [larderref12_linesWeigh.l0, if_neg (by omega)]) (by rw [show A + total (lineF l) 0 i = A by simp [total]]; exact Ev.now _)
  | d + 1, i, A, h0, hd => by
    have ih := rlines_tell l hl d (i + 1) (A + lineF l i) (by omega) (by omega)
    have e : A + total (lineF l) (d + 1) i = A + lineF l i + total (lineF l) d (i + 1) := by simp only [total]; omega
    rw [e]
    refine Ev.step (fun k => ?_) ih
    rw [larderref12_linesWeigh.l0, if_pos (by omega), if_pos h0, sw_0 (i + 1) (by omega) (by omega), sw_l, sw_l2, Int.add_assoc]
    rfl

theorem lines_ev (l : List S72) (hl : l.length ≤ 4611686018427387904) : Ev (fun k => stock_linesWeigh.f k l) (wrap64 (linesW l)) := by
  have := lines_tell l hl l.length 0 0 (by omega) (by omega)
  rw [Int.zero_add, sw_0 0 (by omega) (by omega)] at this
  exact this
theorem rlines_ev (l : List S72) (hl : l.length ≤ 4611686018427387904) : Ev (fun k => larderref12_linesWeigh.f k l) (wrap64 (linesW l)) := by
  have := rlines_tell l hl l.length 0 0 (by omega) (by omega)
  rw [Int.zero_add, sw_0 0 (by omega) (by omega)] at this
  exact this

def holdW (x : S61) : Int := 14 + (x.f0.size : Int) + linesW x.f1
def requestW (x : S29) : Int := 40 + (x.f0.size : Int) + (x.f3.size : Int) + linesW x.f2

theorem hold_ev (x : S61) (hl : x.f1.length ≤ 4611686018427387904) : Ev (fun k => stock_holdWeighs.f k x.f0 x.f1 x.f2) (wrap64 (holdW x)) := by
  refine Ev.bind (f := fun _ t104 => some (wrap64 ((wrap64 (14 + (x.f0.size : Int))) + t104))) (lines_ev x.f1 hl) ?_
  rw [sw_l, sw_r]
  exact Ev.now _
theorem rhold_ev (x : S61) (hl : x.f1.length ≤ 4611686018427387904) : Ev (fun k => larderref12_holdWeight.f k x.f0 x.f1) (wrap64 (holdW x)) := by
  refine Ev.bind (f := fun _ t104 => some (wrap64 ((wrap64 (14 + (x.f0.size : Int))) + t104))) (rlines_ev x.f1 hl) ?_
  rw [sw_l, sw_r]
  exact Ev.now _
theorem done_ev (x : S29) (hl : x.f2.length ≤ 4611686018427387904) : Ev (fun k => stock_doneWeighs.f k x.f0 x.f1 x.f2 x.f3 x.f4 x.f5) (wrap64 (11 + requestW x)) := by
  refine Ev.bind (f := fun _ t106 => some (wrap64 ((wrap64 ((wrap64 (51 + (x.f0.size : Int))) + (x.f3.size : Int))) + t106))) (lines_ev x.f2 hl) ?_
  rw [sw_l, sw_l2, sw_r]
  rw [show 51 + (x.f0.size : Int) + (x.f3.size : Int) + linesW x.f2 = 11 + requestW x by unfold requestW; omega]
  exact Ev.now _
theorem rrequest_ev (x : S29) (hl : x.f2.length ≤ 4611686018427387904) : Ev (fun k => larderref12_RequestWeight.f k x.f0 x.f1 x.f2 x.f3 x.f4 x.f5) (wrap64 (requestW x)) := by
  refine Ev.bind (f := fun _ t119 => some (wrap64 ((wrap64 ((wrap64 (40 + (x.f0.size : Int))) + (x.f3.size : Int))) + t119))) (rlines_ev x.f2 hl) ?_
  rw [sw_l, sw_l2, sw_r]
  exact Ev.now _

def levelF (l : List S59) (i : Int) : Int := 21 + ((rd_T59 l i).f0.size : Int)
def holdF (l : List S61) (i : Int) : Int := holdW (rd_T61 l i)
def doneF (l : List S31) (i : Int) : Int := 11 + requestW (rd_T31 l i).f0

def Small (x : S29) : Prop := x.f2.length ≤ 4611686018427387904
theorem rd61_ok (l : List S61) (h : ∀ x ∈ l, x.f1.length ≤ 4611686018427387904) (i : Int) (h0 : 0 ≤ i) (h1 : i.toNat < l.length) : (rd_T61 l i).f1.length ≤ 4611686018427387904 := by
  unfold rd_T61
  rw [List.getD_eq_getElem?_getD, List.getElem?_eq_getElem h1]
  exact h _ (List.getElem_mem h1)
theorem rd31_ok (l : List S31) (h : ∀ x ∈ l, x.f0.f2.length ≤ 4611686018427387904) (i : Int) (h0 : 0 ≤ i) (h1 : i.toNat < l.length) : (rd_T31 l i).f0.f2.length ≤ 4611686018427387904 := by
  unfold rd_T31
  rw [List.getD_eq_getElem?_getD, List.getElem?_eq_getElem h1]
  exact h _ (List.getElem_mem h1)

section
variable (a b c : Int) (ls : List S59) (hs : List S61) (ds : List S31) (hls : ls.length ≤ 4611686018427387904) (hhs : hs.length ≤ 4611686018427387904) (hds : ds.length ≤ 4611686018427387904) (hh : ∀ x ∈ hs, x.f1.length ≤ 4611686018427387904) (hd' : ∀ x ∈ ds, x.f0.f2.length ≤ 4611686018427387904)
include hds hd'
theorem w2 : ∀ (d : Nat) (i A : Int), 0 ≤ i → i + d = ds.length → Ev (fun k => stock_Weight.l2 k (wrap64 A) ds ds.length i) (wrap64 (A + total (doneF ds) d i))
  | 0, i, A, h0, hd => Ev.step (f := fun _ => some (wrap64 A)) (fun k => by rw [stock_Weight.l2, if_neg (by omega)]) (by rw [show A + total (doneF ds) 0 i = A by simp [total]]; exact Ev.now _)
  | d + 1, i, A, h0, hd => by
    have ih := w2 d (i + 1) (A + doneF ds i) (by omega) (by omega)
    have e : A + total (doneF ds) (d + 1) i = A + doneF ds i + total (doneF ds) d (i + 1) := by simp only [total]; omega
    rw [e]
    refine Ev.step (f := fun k => (stock_doneWeighs.f k (rd_T31 ds i).f0.f0 (rd_T31 ds i).f0.f1 (rd_T31 ds i).f0.f2 (rd_T31 ds i).f0.f3 (rd_T31 ds i).f0.f4 (rd_T31 ds i).f0.f5).bind fun t115 => stock_Weight.l2 k (wrap64 (wrap64 A + t115)) ds ds.length (i + 1)) (fun k => ?_) ?_
    · rw [stock_Weight.l2, if_pos (by omega), if_pos h0, if_pos (by omega), sw_0 (i + 1) (by omega) (by omega)]
    · refine Ev.bind (f := fun k t115 => stock_Weight.l2 k (wrap64 (wrap64 A + t115)) ds ds.length (i + 1)) (done_ev (rd_T31 ds i).f0 (rd31_ok ds hd' i h0 (by omega))) ?_
      rw [sw_l, sw_r]
      exact ih
theorem rw2 : ∀ (d : Nat) (i A : Int), 0 ≤ i → i + d = ds.length → Ev (fun k => larderref12_Weight.l2 k (wrap64 A) i a b c ls hs ds) (wrap64 (A + total (doneF ds) d i))
  | 0, i, A, h0, hd => Ev.step (f := fun _ => some (wrap64 A)) (fun k => by rw [larderref12_Weight.l2, if_neg (by omega)]) (by rw [show A + total (doneF ds) 0 i = A by simp [total]]; exact Ev.now _)
  | d + 1, i, A, h0, hd => by
    have ih := rw2 d (i + 1) (A + doneF ds i) (by omega) (by omega)
    have e : A + total (doneF ds) (d + 1) i = A + doneF ds i + total (doneF ds) d (i + 1) := by simp only [total]; omega
    rw [e]
    refine Ev.step (f := fun k => (larderref12_RequestWeight.f k (rd_T31 ds i).f0.f0 (rd_T31 ds i).f0.f1 (rd_T31 ds i).f0.f2 (rd_T31 ds i).f0.f3 (rd_T31 ds i).f0.f4 (rd_T31 ds i).f0.f5).bind fun t126 => larderref12_Weight.l2 k (wrap64 (wrap64 (wrap64 A + 11) + t126)) (i + 1) a b c ls hs ds) (fun k => ?_) ?_
    · rw [larderref12_Weight.l2, if_pos (by omega), if_pos h0, sw_0 (i + 1) (by omega) (by omega)]
    · refine Ev.bind (f := fun k t126 => larderref12_Weight.l2 k (wrap64 (wrap64 (wrap64 A + 11) + t126)) (i + 1) a b c ls hs ds) (rrequest_ev (rd_T31 ds i).f0 (rd31_ok ds hd' i h0 (by omega))) ?_
      rw [sw_l, sw_l2, sw_r, Int.add_assoc]
      exact ih
include hhs hh
theorem w1 : ∀ (d : Nat) (i A : Int), 0 ≤ i → i + d = hs.length → Ev (fun k => stock_Weight.l1 k (wrap64 A) hs hs.length i a b c ls hs ds) (wrap64 (A + total (holdF hs) d i + total (doneF ds) ds.length 0))
  | 0, i, A, h0, hd => by
    rw [show A + total (holdF hs) 0 i = A by simp [total]]
    refine Ev.step (fun k => ?_) (w2 ds hds hd' ds.length 0 A (by omega) (by omega))
    rw [stock_Weight.l1, if_neg (by omega)]
  | d + 1, i, A, h0, hd => by
    have ih := w1 d (i + 1) (A + holdF hs i) (by omega) (by omega)
    have e : A + total (holdF hs) (d + 1) i = A + holdF hs i + total (holdF hs) d (i + 1) := by simp only [total]; omega
    rw [e]
    refine Ev.step (f := fun k => (stock_holdWeighs.f k (rd_T61 hs i).f0 (rd_T61 hs i).f1 (rd_T61 hs i).f2).bind fun t112 => stock_Weight.l1 k (wrap64 (wrap64 A + t112)) hs hs.length (i + 1) a b c ls hs ds) (fun k => ?_) ?_
    · rw [stock_Weight.l1, if_pos (by omega), if_pos h0, if_pos (by omega), sw_0 (i + 1) (by omega) (by omega)]
    · refine Ev.bind (f := fun k t112 => stock_Weight.l1 k (wrap64 (wrap64 A + t112)) hs hs.length (i + 1) a b c ls hs ds) (hold_ev (rd_T61 hs i) (rd61_ok hs hh i h0 (by omega))) ?_
      rw [sw_l, sw_r]
      exact ih
theorem rw1 : ∀ (d : Nat) (i A : Int), 0 ≤ i → i + d = hs.length → Ev (fun k => larderref12_Weight.l1 k (wrap64 A) i a b c ls hs ds) (wrap64 (A + total (holdF hs) d i + total (doneF ds) ds.length 0))
  | 0, i, A, h0, hd => by
    rw [show A + total (holdF hs) 0 i = A by simp [total]]
    refine Ev.step (fun k => ?_) (rw2 a b c ls hs ds hds hd' ds.length 0 A (by omega) (by omega))
    rw [larderref12_Weight.l1, if_neg (by omega)]
  | d + 1, i, A, h0, hd => by
    have ih := rw1 d (i + 1) (A + holdF hs i) (by omega) (by omega)
    have e : A + total (holdF hs) (d + 1) i = A + holdF hs i + total (holdF hs) d (i + 1) := by simp only [total]; omega
    rw [e]
    refine Ev.step (f := fun k => (larderref12_holdWeight.f k (rd_T61 hs i).f0 (rd_T61 hs i).f1).bind fun t124 => larderref12_Weight.l1 k (wrap64 (wrap64 A + t124)) (i + 1) a b c ls hs ds) (fun k => ?_) ?_
    · rw [larderref12_Weight.l1, if_pos (by omega), if_pos h0, sw_0 (i + 1) (by omega) (by omega)]
    · refine Ev.bind (f := fun k t124 => larderref12_Weight.l1 k (wrap64 (wrap64 A + t124)) (i + 1) a b c ls hs ds) (rhold_ev (rd_T61 hs i) (rd61_ok hs hh i h0 (by omega))) ?_
      rw [sw_l, sw_r]
      exact ih
include hls
theorem w0 : ∀ (d : Nat) (i A : Int), 0 ≤ i → i + d = ls.length → Ev (fun k => stock_Weight.l0 k (wrap64 A) ls ls.length i a b c ls hs ds) (wrap64 (A + total (levelF ls) d i + total (holdF hs) hs.length 0 + total (doneF ds) ds.length 0))
  | 0, i, A, h0, hd => by
    rw [show A + total (levelF ls) 0 i = A by simp [total]]
    refine Ev.step (fun k => ?_) (w1 a b c ls hs ds hhs hds hh hd' hs.length 0 A (by omega) (by omega))
    rw [stock_Weight.l0, if_neg (by omega)]
  | d + 1, i, A, h0, hd => by
    have ih := w0 d (i + 1) (A + levelF ls i) (by omega) (by omega)
    have e : A + total (levelF ls) (d + 1) i = A + levelF ls i + total (levelF ls) d (i + 1) := by simp only [total]; omega
    rw [e]
    refine Ev.step (fun k => ?_) ih
    rw [stock_Weight.l0, if_pos (by omega), if_pos h0, if_pos (by omega), sw_0 (i + 1) (by omega) (by omega), sw_l, sw_r]
    rfl
theorem rw0 : ∀ (d : Nat) (i A : Int), 0 ≤ i → i + d = ls.length → Ev (fun k => larderref12_Weight.l0 k (wrap64 A) i a b c ls hs ds) (wrap64 (A + total (levelF ls) d i + total (holdF hs) hs.length 0 + total (doneF ds) ds.length 0))
  | 0, i, A, h0, hd => by
    rw [show A + total (levelF ls) 0 i = A by simp [total]]
    refine Ev.step (fun k => ?_) (rw1 a b c ls hs ds hhs hds hh hd' hs.length 0 A (by omega) (by omega))
    rw [larderref12_Weight.l0, if_neg (by omega)]
  | d + 1, i, A, h0, hd => by
    have ih := rw0 d (i + 1) (A + levelF ls i) (by omega) (by omega)
    have e : A + total (levelF ls) (d + 1) i = A + levelF ls i + total (levelF ls) d (i + 1) := by simp only [total]; omega
    rw [e]
    refine Ev.step (fun k => ?_) ih
    rw [larderref12_Weight.l0, if_pos (by omega), if_pos h0, sw_0 (i + 1) (by omega) (by omega), sw_l, sw_l2, Int.add_assoc]
    rfl
end

theorem same_nil (s : ByteArray) (x : Int) : Ev (fun k => larderref12_SameReply.f k s 0 0 [] x s 0 0 [] x) true := by
  refine ⟨3, fun k hk => ?_⟩
  obtain ⟨m, rfl⟩ : ∃ m, k = m + 1 + 1 := ⟨k - 2, by omega⟩
  show larderref12_SameReply.f (m + 1 + 1) s 0 0 [] x s 0 0 [] x = some true
  unfold larderref12_SameReply.f
  rw [if_pos rfl, if_pos rfl, if_pos rfl, if_pos rfl]
  show larderref12_SameReply.j0 (m + 1 + 1) false s 0 0 [] x s 0 0 [] x = _
  rw [larderref12_SameReply.j0, if_neg (by decide), larderref12_SameReply.l0, if_neg (by simp)]

theorem first_ev (s : ByteArray) (kind : Int) (l : List S72) (h : ByteArray) (ttl now at_ : Int) : Ev (fun k => stock_First.f k s kind l h ttl now at_) (s, 0, 0, [], Sw.firstN kind at_ ttl) := Ev.now _
theorem rfirst_eq (s : ByteArray) (kind : Int) (l : List S72) (h : ByteArray) (ttl now at_ : Int) : larderref12_First.f s kind l h ttl now at_ = some (s, 0, 0, [], Sw.firstN kind at_ ttl) := rfl

theorem StockWeighs : larderlaw12_StockWeighs.Pure := by
  intro x y hx hy
  obtain ⟨_, _, _, ⟨_, _, hl3⟩, ⟨hg4, _, hl4⟩, ⟨hg5, _, hl5⟩⟩ := hx
  have b : ∀ n : Nat, n ≤ maxLen → n ≤ 140737488351232 * 8 → n ≤ 4611686018427387904 := fun n _ h => by omega
  have c3 : x.f3.length ≤ 4611686018427387904 := by omega
  have c4 : x.f4.length ≤ 4611686018427387904 := by omega
  have c5 : x.f5.length ≤ 4611686018427387904 := by omega
  have hh : ∀ z ∈ x.f4, z.f1.length ≤ 4611686018427387904 := fun z hz => by
    obtain ⟨_, ⟨_, h2, _⟩, _⟩ := hg4 z hz
    omega
  have hd : ∀ z ∈ x.f5, z.f0.f2.length ≤ 4611686018427387904 := fun z hz => by
    obtain ⟨⟨_, _, ⟨_, h2, _⟩, _⟩, _⟩ := hg5 z hz
    omega
  have e1 := w0 x.f0 x.f1 x.f2 x.f3 x.f4 x.f5 c3 c4 c5 hh hd x.f3.length 0 64 (by omega) (by omega)
  have e2 := rw0 x.f0 x.f1 x.f2 x.f3 x.f4 x.f5 c3 c4 c5 hh hd x.f3.length 0 64 (by omega) (by omega)
  rw [sw_0 64 (by omega) (by omega)] at e1 e2
  refine Ev.rounds (g := fun k => larderlaw12_StockWeighs.f k x.f0 x.f1 x.f2 x.f3 x.f4 x.f5 y.f0.f0 y.f0.f1 y.f0.f2 y.f0.f3 y.f0.f4 y.f0.f5 y.f1) ?_
  unfold larderlaw12_StockWeighs.f
  refine Ev.bind (g := fun k => stock_Weight.f k x.f0 x.f1 x.f2 x.f3 x.f4 x.f5) e1 ?_
  refine Ev.bind (g := fun k => larderref12_Weight.f k x.f0 x.f1 x.f2 x.f3 x.f4 x.f5) e2 ?_
  simp only [if_true]
  refine Ev.bind (g := fun k => stock_First.f k y.f0.f0 y.f0.f1 y.f0.f2 y.f0.f3 y.f0.f4 y.f0.f5 y.f1) (first_ev _ _ _ _ _ _ _) ?_
  simp only [rfirst_eq, Option.bind_some]
  exact Ev.bind (f := fun _ t156 => some t156) (same_nil _ _) (Ev.now _)
end Go.Proofs.Ythgdjkmagppdlaa.Pure
