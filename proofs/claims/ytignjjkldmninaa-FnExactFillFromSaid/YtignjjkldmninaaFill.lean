/- FillFrom: what it computes, the copy of a disc. -/
import Derived.Test.YtignjjkldmninaaSMerge
import Derived.Test.YtignjjkldmninaaVDumps
namespace Go.Proofs.Ytignjjkldmninaa
set_option linter.unusedVariables false
open Go.RowKit
def fill1 (a b : Sec) : Sec := if a.state ≠ 1 ∧ b.state = 1 then b else a
def fillL : List Sec → List Sec → List Sec
  | a :: r, b :: t => fill1 a b :: fillL r t
  | r, _ => r
def fillC (a b : Sec) : Int := if a.state ≠ 1 ∧ b.state = 1 then 1 else 0
def fillN : List Sec → List Sec → Int
  | a :: r, b :: t => fillC a b + fillN r t
  | _, _ => 0
theorem fillL_len (a : List Sec) : ∀ b, (fillL a b).length = a.length := by
  induction a with
  | nil => intro b; cases b <;> rfl
  | cons x xs ih => intro b; cases b with
    | nil => rfl
    | cons y ys => simp [fillL, ih]
theorem fillL_drop {a b : List Sec} {k : Nat} {x y : Sec} (ha : a[k]? = some x) (hb : b[k]? = some y) : fillL (a.drop k) (b.drop k) = fill1 x y :: fillL (a.drop (k + 1)) (b.drop (k + 1)) := by
  obtain ⟨h1, e1⟩ := List.getElem?_eq_some_iff.1 ha
  obtain ⟨h2, e2⟩ := List.getElem?_eq_some_iff.1 hb
  rw [List.drop_eq_getElem_cons h1, List.drop_eq_getElem_cons h2, e1, e2]
  rfl
theorem fillN_drop {a b : List Sec} {k : Nat} {x y : Sec} (ha : a[k]? = some x) (hb : b[k]? = some y) : fillN (a.drop k) (b.drop k) = fillC x y + fillN (a.drop (k + 1)) (b.drop (k + 1)) := by
  obtain ⟨h1, e1⟩ := List.getElem?_eq_some_iff.1 ha
  obtain ⟨h2, e2⟩ := List.getElem?_eq_some_iff.1 hb
  rw [List.drop_eq_getElem_cons h1, List.drop_eq_getElem_cons h2, e1, e2]
  rfl
theorem fillN_le (a : List Sec) : ∀ b, 0 ≤ fillN a b ∧ fillN a b ≤ a.length := by
  induction a with
  | nil => intro b; cases b <;> simp [fillN]
  | cons x xs ih => intro b; cases b with
    | nil => simp [fillN]; omega
    | cons y ys =>
      have := ih ys
      have h : 0 ≤ fillC x y ∧ fillC x y ≤ 1 := by unfold fillC; split <;> omega
      simp [fillN]
      omega
theorem discOk_len {d : Dsc} (h : discOk d = true) : (d.secs.length : Int) = d.cyl * d.heads * d.per := by
  unfold discOk at h
  simp at h
  exact h.2.1
theorem dumps2 {a b : Dsc} (h : dumpsOk [a, b] = true) : discOk a = true ∧ discOk b = true ∧ sameG b a = true ∧ b.secs.length = a.secs.length := by
  unfold dumpsOk at h
  simp at h
  obtain ⟨⟨h1, _⟩, h2, h3⟩ := h
  refine ⟨h1, h2, h3, ?_⟩
  have e1 := discOk_len h1
  have e2 := discOk_len h2
  unfold sameG at h3
  simp at h3
  obtain ⟨⟨⟨g1, g2⟩, g3⟩, _⟩ := h3
  rw [g1, g2, g3, ← e1] at e2
  omega
def fillD (a b : Dsc) : Dsc := if dumpsOk [a, b] then ⟨a.cyl, a.heads, a.per, a.size, fillL a.secs b.secs⟩ else ⟨0, 0, 0, 0, []⟩
def fillK (a b : Dsc) : Int := if dumpsOk [a, b] then fillN a.secs b.secs else 0
def fillE (a b : Dsc) : Int := if dumpsOk [a, b] then 0 else 1
def FillR (w : World) (a b : Dsc) (e : Ending) (w' : World) : Prop := ∃ A c, e = .returned (.tuple #[dscV (fillD a b) (.slice A (fillD a b).secs.length c), .int .i64 (fillK a b), .int .i64 (fillE a b)]) ∧ SecOwn w.heap.size w' (.slice A (fillD a b).secs.length c) (fillD a b).secs ∧ Below w.heap.size w w'
theorem sec_one (b : Sec) : ∀ u ∈ b.cells, u.oneCell' = true := by simp [Sec.cells, Value.oneCell']
set_option maxHeartbeats 1000000 in
theorem clone_sec (B : Nat) (v : Value) (l : List Sec) (w : World) (h : SecOwn B w v l) (hn : l.length ≤ 8388608) :
    Calls Try.prog 116 #[v] w fun e w' => RetL Sec.cells 2 48 w l e w' := by
  obtain ⟨i0, hi, hz0, hz1, hz2⟩ := info_parts Sec.info
  have hnil := fun (w : World) (a : Option Addr) (n c n' c' : Nat) => Lib.run_eql_slice_nil (P := Try.prog) w 37 48 a n c n' c' Try.underlying37
  rcases h.2 with ⟨rfl, hl0⟩ | ⟨g, cap, cur, rfl, _⟩
  · obtain rfl : l = [] := List.eq_nil_of_length_eq_zero hl0
    go_enter Try.func116, Try.ntmps116
    go_wp2
    go_ret
    exact ⟨_, rfl, OwnL.of_nil, (by repeat (first | exact Below.refl _ _ | refine Below.alloc ?_ (by first | omega | (simp; done) | (simp; omega)) _ | apply Below.drew | apply below_drewN | refine Below.setCell ?_ (by first | omega | (simp; done) | (simp; omega)) _ | refine Below.trans ?_ (Below.mono (by assumption) (by first | omega | (simp; done) | (simp; omega)))))⟩
  · go_enter Try.func116, Try.ntmps116
    go_wp2_with (at_builtin; refine wpList_appAll Sec.cells 2 Sec.len _ rfl _ _ _ rfl w.heap.size B 48 48 i0 (.agg #[.string .empty, .int .i64 0]) 24 Try.underlying37 hi hz0 hz1 hz2 rfl (by omega) _ [] rfl (OwnL.of_empty w (Nat.le_refl _)) _ l rfl (h.alloc _) sec_one (by simp; omega) (by omega) (by simp) ?_; intro v' w2 how2 hg2)
    go_ret
    exact ⟨_, rfl, how2, own_grown_below (OwnL.of_empty (f := Sec.cells) (z := 2) (α := Sec) w (Nat.le_refl _)) (by repeat (first | exact Below.refl _ _ | refine Below.alloc ?_ (by first | omega | (simp; done) | (simp; omega)) _ | apply Below.drew | apply below_drewN | refine Below.setCell ?_ (by first | omega | (simp; done) | (simp; omega)) _ | refine Below.trans ?_ (Below.mono (by assumption) (by first | omega | (simp; done) | (simp; omega))))) hg2 (Nat.le_refl _) (by first | omega | (simp; done) | (simp; omega))⟩
set_option maxRecDepth 20000 in
set_option maxHeartbeats 2000000 in
theorem cloneD_i (B : Nat) (d : Dsc) (v : Value) (w : World) (h : SecOwn B w v d.secs) (hn : d.secs.length ≤ 8388608) :
    Calls Try.prog 83 #[dscV d v] w fun e w' => ∃ A c, e = .returned (dscV d (.slice A d.secs.length c)) ∧ SecOwn w.heap.size w' (.slice A d.secs.length c) d.secs ∧ Below w.heap.size w w' := by
  have HO := Lib.hid h
  obtain ⟨A, c, rfl, _⟩ := OwnL.shape h
  have HB : Below w.heap.size w ((w.alloc (.cells #[.int .i64 d.cyl, .int .i64 d.heads, .int .i64 d.per, .int .i64 d.size, .slice A d.secs.length c] 39)).alloc (.cells #[.int .i64 0, .int .i64 0, .int .i64 0, .int .i64 0, .slice none 0 0] 39)) := (by repeat (first | exact Below.refl _ _ | refine Below.alloc ?_ (by first | omega | (simp; done) | (simp; omega)) _ | apply Below.drew | apply below_drewN | refine Below.setCell ?_ (by first | omega | (simp; done) | (simp; omega)) _ | refine Below.trans ?_ (Below.mono (by assumption) (by first | omega | (simp; done) | (simp; omega)))))
  have HC := Lib.hid (clone_sec B _ d.secs ((w.alloc (.cells #[.int .i64 d.cyl, .int .i64 d.heads, .int .i64 d.per, .int .i64 d.size, .slice A d.secs.length c] 39)).alloc (.cells #[.int .i64 0, .int .i64 0, .int .i64 0, .int .i64 0, .slice none 0 0] 39)) (OwnL.below HO.out HB) hn)
  go_enter Try.func83, Try.ntmps83
  go_wp2_with (fail)
  refine HC.out.mono ?_; rintro e w1 ⟨v1, rfl, o1, hb1⟩
  obtain ⟨hc1, hf1⟩ := bcell hb1
  have z1 : w.heap.size + 2 ≤ w1.heap.size := by have := hb1.size; (try simp at this); omega
  have B1 : Below w.heap.size w w1 := HB.trans (hb1.mono (by simp; omega))
  have O1 : SecOwn (w.heap.size + 2) w1 v1 d.secs := by simpa using o1
  have R1 : Row w1 w.heap.size [.int .i64 d.cyl, .int .i64 d.heads, .int .i64 d.per, .int .i64 d.size, .slice A d.secs.length c] := by
    refine Row.below ?_ hb1 (by simp; omega)
    exact (Row.alloc w #[.int .i64 d.cyl, .int .i64 d.heads, .int .i64 d.per, .int .i64 d.size, .slice A d.secs.length c] 39).below (Below.alloc (Below.refl _ _) (Nat.le_refl _) _) (by simp)
  have Z1 : Row w1 (w.heap.size + 1) [.int .i64 0, .int .i64 0, .int .i64 0, .int .i64 0, .slice none 0 0] := by
    refine Row.below ?_ hb1 (by simp)
    simpa using Row.alloc (w.alloc (.cells #[.int .i64 d.cyl, .int .i64 d.heads, .int .i64 d.per, .int .i64 d.size, .slice A d.secs.length c] 39)) #[.int .i64 0, .int .i64 0, .int .i64 0, .int .i64 0, .slice none 0 0] 39
  obtain ⟨A1, c1, rfl, _⟩ := OwnL.shape O1
  have r0 := R1 0 _ rfl
  have r1 := R1 1 _ rfl
  have r2 := R1 2 _ rfl
  have r3 := R1 3 _ rfl
  have r4 := R1 4 _ rfl
  have q0 := Z1 0 _ rfl
  have q1 := Z1 1 _ rfl
  have q2 := Z1 2 _ rfl
  have q3 := Z1 3 _ rfl
  have q4 := Z1 4 _ rfl
  go_wp2
  let us := [Value.int .i64 d.cyl, .int .i64 d.heads, .int .i64 d.per, .int .i64 d.size, .slice A1 d.secs.length c1]
  have Z2 := (Z1.set_other (g := w.heap.size) (o := 4) (.slice A1 d.secs.length c1) (by omega)).setL us (by simp [us])
  have O2 := setL_far (g := w.heap.size + 1) (o := 0) (by omega) us (far_set (g := w.heap.size) (o := 4) (u := .slice A1 d.secs.length c1) O1 (by omega))
  have B2 : Below w.heap.size w (setL (w1.setCell ⟨w.heap.size, 4, none⟩ (.slice A1 d.secs.length c1)) (w.heap.size + 1) 0 us) := setL_below (by omega) us (Below.setCell B1 (by show w.heap.size ≤ w.heap.size; omega) _)
  clear hc1 hf1 hb1 R1 Z1 O1 o1 r0 r1 r2 r3 r4 q0 q1 q2 q3 q4
  show bodyPost _ _ _ _ _ (setL (w1.setCell ⟨w.heap.size, 4, none⟩ (.slice A1 d.secs.length c1)) (w.heap.size + 1) 0 us)
  generalize (setL (w1.setCell ⟨w.heap.size, 4, none⟩ (.slice A1 d.secs.length c1)) (w.heap.size + 1) 0 us) = W at *
  have s0 := Z2 0 _ rfl
  have s1 := Z2 1 _ rfl
  have s2 := Z2 2 _ rfl
  have s3 := Z2 3 _ rfl
  have s4 := Z2 4 _ rfl
  refine bodyPost_ret (v := dscV d (.slice A1 d.secs.length c1)) (by simp [results, Try.results83, go_sem, s0, s1, s2, s3, s4]; try done) rfl ⟨A1, c1, rfl, OwnL.base O2 (by omega), B2⟩
end Go.Proofs.Ytignjjkldmninaa
