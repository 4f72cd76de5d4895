/- Folded texts: Ins, InsW, DrawU. -/
import Derived.Test.YtklalbbacbaoiaaOwn
import Derived.Test.YtklalbbacbaoiaaSumI
import Derived.Test.YtklalbbacbaoiaaDrawB
import Derived.Test.YtklalbbacbaoiaaFlip
import Derived.Test.YtklalbbacbaoiaaFillL
/- A number put to its place among rising ones, once: plain law. -/
namespace Go.Proofs.Ytklalbbacbaoiaa
set_option linter.unusedVariables false
open Go.RowKit
def insU (x : Nat) : List Nat → List Nat
  | [] => [x]
  | a :: l => if x ≤ a then (if x < a then x :: a :: l else a :: l) else a :: insU x l
theorem insU_mem {x y : Nat} {l : List Nat} : y ∈ insU x l ↔ y = x ∨ y ∈ l := by
  induction l with
  | nil => simp [insU]
  | cons a l ih =>
    unfold insU
    split
    · split
      · simp
      · have : x = a := by omega
        subst this; simp
    · simp only [List.mem_cons, ih]
      constructor
      · rintro (h | h | h) <;> simp [h]
      · rintro (h | h | h) <;> simp [h]
theorem insU_srt {x : Nat} {l : List Nat} (h : l.Pairwise (· < ·)) : (insU x l).Pairwise (· < ·) := by
  induction l with
  | nil => simp [insU]
  | cons a l ih =>
    have hp := List.pairwise_cons.1 h
    unfold insU
    split
    · split
      · exact List.pairwise_cons.2 ⟨fun y hy => by
          rcases List.mem_cons.1 hy with rfl | hy
          · assumption
          · have := hp.1 y hy; omega, h⟩
      · exact h
    · exact List.pairwise_cons.2 ⟨fun y hy => by
        rcases insU_mem.1 hy with rfl | hy
        · omega
        · exact hp.1 y hy, ih hp.2⟩
theorem insU_len (x : Nat) (l : List Nat) : (insU x l).length ≤ l.length + 1 := by
  induction l with
  | nil => simp [insU]
  | cons a l ih =>
    unfold insU
    split
    · split <;> simp
    · simp only [List.length_cons]; omega
/-- the state of the loop that puts x: what is out, and whether x is -/
def PutSt (x : Nat) (l : List Nat) (k : Nat) (o : List Nat) (d : Bool) : Prop := insU x l = o ++ (if d then l.drop k else insU x (l.drop k)) ∧ o.length ≤ k + 1
theorem put_start (x : Nat) (l : List Nat) : PutSt x l 0 [] false := ⟨by simp, by simp⟩
theorem put_done {x k a : Nat} {l o : List Nat} (h : PutSt x l k o true) (ha : l[k]? = some a) : PutSt x l (k + 1) (o ++ [a]) true := by
  obtain ⟨hk, rfl⟩ := List.getElem?_eq_some_iff.1 ha
  obtain ⟨h1, h2⟩ := h
  refine ⟨?_, by simp; omega⟩
  rw [h1]
  simp only [if_true]
  rw [List.drop_eq_getElem_cons hk, List.append_assoc]; rfl
theorem put_skip {x k a : Nat} {l o : List Nat} (h : PutSt x l k o false) (ho : o.length ≤ k) (ha : l[k]? = some a) (hx : ¬ x ≤ a) : PutSt x l (k + 1) (o ++ [a]) false := by
  obtain ⟨hk, rfl⟩ := List.getElem?_eq_some_iff.1 ha
  obtain ⟨h1, h2⟩ := h
  refine ⟨?_, by simp; omega⟩
  rw [h1, if_neg (by decide), if_neg (by decide), List.drop_eq_getElem_cons hk, insU, if_neg hx, List.append_assoc]; rfl
theorem put_new {x k a : Nat} {l o : List Nat} (h : PutSt x l k o false) (ho : o.length ≤ k) (ha : l[k]? = some a) (hx : x < a) : PutSt x l (k + 1) (o ++ [x] ++ [a]) true := by
  obtain ⟨hk, rfl⟩ := List.getElem?_eq_some_iff.1 ha
  obtain ⟨h1, h2⟩ := h
  refine ⟨?_, by simp; omega⟩
  rw [h1, if_neg (by decide), if_pos rfl, List.drop_eq_getElem_cons hk, insU, if_pos (by omega), if_pos hx, List.append_assoc, List.append_assoc]; rfl
theorem put_same {x k a : Nat} {l o : List Nat} (h : PutSt x l k o false) (ho : o.length ≤ k) (ha : l[k]? = some a) (hx : x = a) : PutSt x l (k + 1) (o ++ [a]) true := by
  obtain ⟨hk, rfl⟩ := List.getElem?_eq_some_iff.1 ha
  obtain ⟨h1, h2⟩ := h
  refine ⟨?_, by simp; omega⟩
  rw [h1, if_neg (by decide), if_pos rfl, List.drop_eq_getElem_cons hk, insU, if_pos (by omega), if_neg (by omega), List.append_assoc]; rfl
theorem put_end {x : Nat} {l o : List Nat} {d : Bool} (h : PutSt x l l.length o d) : insU x l = if d then o else o ++ [x] := by
  rw [h.1, List.drop_length]
  cases d <;> simp [insU]
end Go.Proofs.Ytklalbbacbaoiaa
/- l00Put: the walk. -/
namespace Go.Proofs.Ytklalbbacbaoiaa
open Go.RowKit
set_option maxRecDepth 20000 in
set_option maxHeartbeats 4000000 in
theorem lput_s (u : List Nat) (x : Nat) (v : Value) (w : World) (h : IntsAt w v (intsN u)) (hn : u.length ≤ 1048576) :
    Calls Try.prog 99 #[v, .int .i64 x] w fun e w' => RetL icell 1 2 w (intsN (insU x u)) e w' := by
  obtain ⟨i0, hi, hz0, hz1, hz2⟩ := info_parts icell_info
  obtain ⟨A, c, rfl, hA⟩ := h
  simp only [intsN_len]
  have HO0 : Hid (Int64L w.heap.size (w.alloc (.cells #[] 2)) (.slice (some ⟨w.heap.size, 0, none⟩) 0 0) (intsN [])) := Lib.hid (OwnL.of_empty w (Nat.le_refl _))
  go_enter Try.func99, Try.ntmps99
  go_wp2
  go_loopw [7, 5, 6] (fun i y q wr => ∃ (k : Nat) (o : List Nat) (d : Bool), k ≤ u.length ∧ i = .int .i64 k ∧ q = .bool d ∧ Below w.heap.size w wr ∧ Hid (Int64L w.heap.size wr y (intsN o)) ∧ Hid (PutSt x u k o d ∧ (d = false → o.length ≤ k))) (fun i _ _ _ => u.length - (intOf i).toNat)
  case atStart => exact ⟨0, [], false, by omega, rfl, rfl, (by repeat (first | exact Below.refl _ _ | refine Below.alloc ?_ (by first | omega | (simp; done) | (simp; omega)) _ | apply Below.drew | apply below_drewN | refine Below.setCell ?_ (by first | omega | (simp; done) | (simp; omega)) _ | refine Below.trans ?_ (Below.mono (by assumption) (by first | omega | (simp; done) | (simp; omega))))), HO0, Lib.hid ⟨put_start x u, fun _ => by simp⟩⟩
  case round =>
    clear HO0
    obtain ⟨k, o, d, hk, rfl, rfl, hb, HO, HP⟩ := hrel
    have zr := hb.size
    have hol := HP.out.1.2
    by_cases hlt : k < u.length
    · obtain ⟨a, ha⟩ : ∃ a, u[k]? = some a := ⟨u[k], List.getElem?_eq_getElem hlt⟩
      obtain ⟨g, rfl, hg, hcc⟩ := hA.resolve_left (by intro h0; have := congrArg List.length h0; rw [intsN_len] at this; simp only [List.length_nil] at this; omega)
      have k0 := (hb.cell (p := ⟨g, k, none⟩) hg).trans (hcc k _ (intsN_get ha))
      have hl1 : (intsN o).length + 1 ≤ 16777216 := by rw [intsN_len]; omega
      have hbase : w.heap.size ≤ (wr.alloc (.cells #[.int .i64 (a : Int)] 2)).heap.size := by simp; omega
      obtain ⟨Ax, cx, rfl, _⟩ := OwnL.shape HO.out
      cases d
      · by_cases hxa : x ≤ a
        · have d1 : decide ((x : Int) ≤ (a : Int)) = true := decide_eq_true (by omega)
          have d3 : decide (x ≤ a) = true := decide_eq_true hxa
          by_cases hxl : x < a
          · have d2 : decide ((x : Int) < (a : Int)) = true := decide_eq_true (by omega)
            have d4 : decide (x < a) = true := decide_eq_true hxl
            have HN := Lib.hid (put_new HP.out.1 (HP.out.2 rfl) ha hxl)
            have hbase1 : w.heap.size ≤ (wr.alloc (.cells #[.int .i64 (x : Int)] 2)).heap.size := by simp; omega
            have hl8 : (intsN o ++ [(x : Int)]).length = (intsN o).length + 1 := by simp
            have hl2 : (intsN (o ++ [x])).length + 1 ≤ 16777216 := by rw [intsN_len]; simp; omega
            clear ha hcc hxa hxl
            go_wp2_with (first
              | (at_builtin; refine wpList_app1 icell 1 icell_len _ rfl _ _ _ rfl w.heap.size 2 i0 (.int .i64 0) 8 Try.underlying34 hi hz0 hz1 hz2 rfl (by decide) _ (intsN o) rfl (HO.out.alloc _) _ 1 (x : Int) rfl ?_ (by simp [icell, Value.oneCell']) hl1 (by decide) hbase1 ?_; (· intro j u hu; cases j with | zero => (simp [icell] at hu; subst hu; simp) | succ j => simp [icell] at hu); intro v8 w8 how8 hg8'; have hb8 : Below w.heap.size w w8 := own_grown_below (HO.out.alloc (.cells #[.int .i64 (x : Int)] 2)) (Below.alloc hb zr _) hg8' (Nat.le_refl _) hbase1; have HO8 : Hid (Int64L w.heap.size w8 v8 (intsN (o ++ [x]))) := Lib.hid (by rw [intsN_app]; exact how8); have z8 := hb8.size; have k8 := (hb8.cell (p := ⟨g, k, none⟩) hg).trans ((hb.cell (p := ⟨g, k, none⟩) hg).symm.trans k0); obtain ⟨A8, c8, hv8, _⟩ := OwnL.shape how8; rw [hl8] at hv8; subst hv8; clear how8 hg8' HO)
              | (at_builtin; refine wpList_app1 icell 1 icell_len _ rfl _ _ _ rfl w.heap.size 2 i0 (.int .i64 0) 8 Try.underlying34 hi hz0 hz1 hz2 rfl (by decide) _ (intsN (o ++ [x])) rfl (HO8.out.alloc _) _ 1 (a : Int) rfl ?_ (by simp [icell, Value.oneCell']) hl2 (by decide) (Nat.le_trans z8 (by simp)) ?_; (· intro j u hu; cases j with | zero => (simp [icell] at hu; subst hu; simp) | succ j => simp [icell] at hu); intro v9 w9 how9 hg9'; have hb9 : Below w.heap.size w w9 := own_grown_below (HO8.out.alloc (.cells #[.int .i64 (a : Int)] 2)) (Below.alloc hb8 z8 _) hg9' (Nat.le_refl _) (Nat.le_trans z8 (by simp)); have HO9 : Hid (Int64L w.heap.size w9 v9 (intsN (o ++ [x] ++ [a]))) := Lib.hid (by rw [intsN_app]; exact how9); clear how9 hg9'))
            go_roundw
            case rel => exact ⟨k + 1, _, true, by omega, by go_num, rfl, hb9, HO9, Lib.hid ⟨HN.out, fun h => by cases h⟩⟩
            case measure => simp [intOf]; omega
          · have d2 : decide ((x : Int) < (a : Int)) = false := decide_eq_false (by omega)
            have d4 : decide (x < a) = false := decide_eq_false hxl
            have HN := Lib.hid (put_same HP.out.1 (HP.out.2 rfl) ha (by omega))
            clear ha hcc hxa hxl
            go_wp2_with (first
              | (at_builtin; refine wpList_app1 icell 1 icell_len _ rfl _ _ _ rfl w.heap.size 2 i0 (.int .i64 0) 8 Try.underlying34 hi hz0 hz1 hz2 rfl (by decide) _ (intsN o) rfl (HO.out.alloc _) _ 1 (a : Int) rfl ?_ (by simp [icell, Value.oneCell']) hl1 (by decide) hbase ?_; (· intro j u hu; cases j with | zero => (simp [icell] at hu; subst hu; simp) | succ j => simp [icell] at hu); intro v8 w8 how8 hg8'; have hb8 : Below w.heap.size w w8 := own_grown_below (HO.out.alloc (.cells #[.int .i64 (a : Int)] 2)) (Below.alloc hb zr _) hg8' (Nat.le_refl _) hbase; have HO8 : Hid (Int64L w.heap.size w8 v8 (intsN (o ++ [a]))) := Lib.hid (by rw [intsN_app]; exact how8); clear how8 hg8'))
            go_roundw
            case rel => exact ⟨k + 1, _, true, by omega, by go_num, rfl, hb8, HO8, Lib.hid ⟨HN.out, fun h => by cases h⟩⟩
            case measure => simp [intOf]; omega
        · have d1 : decide ((x : Int) ≤ (a : Int)) = false := decide_eq_false (by omega)
          have d3 : decide (x ≤ a) = false := decide_eq_false hxa
          have HN := Lib.hid (put_skip HP.out.1 (HP.out.2 rfl) ha hxa)
          have hok := HP.out.2 rfl
          clear ha hcc hxa
          go_wp2_with (first
            | (at_builtin; refine wpList_app1 icell 1 icell_len _ rfl _ _ _ rfl w.heap.size 2 i0 (.int .i64 0) 8 Try.underlying34 hi hz0 hz1 hz2 rfl (by decide) _ (intsN o) rfl (HO.out.alloc _) _ 1 (a : Int) rfl ?_ (by simp [icell, Value.oneCell']) hl1 (by decide) hbase ?_; (· intro j u hu; cases j with | zero => (simp [icell] at hu; subst hu; simp) | succ j => simp [icell] at hu); intro v8 w8 how8 hg8'; have hb8 : Below w.heap.size w w8 := own_grown_below (HO.out.alloc (.cells #[.int .i64 (a : Int)] 2)) (Below.alloc hb zr _) hg8' (Nat.le_refl _) hbase; have HO8 : Hid (Int64L w.heap.size w8 v8 (intsN (o ++ [a]))) := Lib.hid (by rw [intsN_app]; exact how8); clear how8 hg8'))
          go_roundw
          case rel => exact ⟨k + 1, _, false, by omega, by go_num, rfl, hb8, HO8, Lib.hid ⟨HN.out, fun _ => by simp; omega⟩⟩
          case measure => simp [intOf]; omega
      · have HN := Lib.hid (put_done HP.out.1 ha)
        clear ha hcc
        go_wp2_with (first
          | (at_builtin; refine wpList_app1 icell 1 icell_len _ rfl _ _ _ rfl w.heap.size 2 i0 (.int .i64 0) 8 Try.underlying34 hi hz0 hz1 hz2 rfl (by decide) _ (intsN o) rfl (HO.out.alloc _) _ 1 (a : Int) rfl ?_ (by simp [icell, Value.oneCell']) hl1 (by decide) hbase ?_; (· intro j u hu; cases j with | zero => (simp [icell] at hu; subst hu; simp) | succ j => simp [icell] at hu); intro v8 w8 how8 hg8'; have hb8 : Below w.heap.size w w8 := own_grown_below (HO.out.alloc (.cells #[.int .i64 (a : Int)] 2)) (Below.alloc hb zr _) hg8' (Nat.le_refl _) hbase; have HO8 : Hid (Int64L w.heap.size w8 v8 (intsN (o ++ [a]))) := Lib.hid (by rw [intsN_app]; exact how8); clear how8 hg8'))
        go_roundw
        case rel => exact ⟨k + 1, _, true, by omega, by go_num, rfl, hb8, HO8, Lib.hid ⟨HN.out, fun h => by cases h⟩⟩
        case measure => simp [intOf]; omega
    · obtain rfl : k = u.length := by omega
      have HE := Lib.hid (put_end HP.out.1)
      cases d
      · have hl1 : (intsN o).length + 1 ≤ 16777216 := by rw [intsN_len]; omega
        have hbase : w.heap.size ≤ (wr.alloc (.cells #[.int .i64 (x : Int)] 2)).heap.size := by simp; omega
        obtain ⟨Ax, cx, rfl, _⟩ := OwnL.shape HO.out
        go_wp2_with (first
          | (at_builtin; refine wpList_app1 icell 1 icell_len _ rfl _ _ _ rfl w.heap.size 2 i0 (.int .i64 0) 8 Try.underlying34 hi hz0 hz1 hz2 rfl (by decide) _ (intsN o) rfl (HO.out.alloc _) _ 1 (x : Int) rfl ?_ (by simp [icell, Value.oneCell']) hl1 (by decide) hbase ?_; (· intro j u hu; cases j with | zero => (simp [icell] at hu; subst hu; simp) | succ j => simp [icell] at hu); intro v8 w8 how8 hg8'; have hb8 : Below w.heap.size w w8 := own_grown_below (HO.out.alloc (.cells #[.int .i64 (x : Int)] 2)) (Below.alloc hb zr _) hg8' (Nat.le_refl _) hbase; have HO8 : Hid (Int64L w.heap.size w8 v8 (intsN (o ++ [x]))) := Lib.hid (by rw [intsN_app]; exact how8); clear how8 hg8'))
        go_ret
        exact ⟨_, rfl, by rw [HE.out]; exact HO8.out, hb8⟩
      · obtain ⟨Ax, cx, rfl, _⟩ := OwnL.shape HO.out
        have HO2 := HO.out
        go_wp2
        go_ret
        exact ⟨_, rfl, by rw [HE.out]; exact HO2, hb⟩
end Go.Proofs.Ytklalbbacbaoiaa
/- The reference's drawn data, unknown bits and check value. -/
namespace Go.Proofs.Ytklalbbacbaoiaa
open Go.RowKit
theorem Chg.of_belowK {B E K : Nat} {w w' : World} (hb : Below K w w') (hK : w.heap.size ≤ K) : Chg B E w w' :=
  ⟨hb.os, hb.tape, hb.output, hb.size, fun k hk _ => hb.block k (by omega)⟩
theorem Chg.blkIn {B E gb : Nat} {a b c : World} (h : Chg B E a b) (k : Chg gb (gb + 1) b c) (hz : a.heap.size ≤ gb) : Chg B E a c :=
  ⟨k.os.trans h.os, k.tape.trans h.tape, k.output.trans h.output, Nat.le_trans h.size k.size, fun q hq hne => (k.block q (Nat.lt_of_lt_of_le hq h.size) (by omega)).trans (h.block q hq hne)⟩
/-- data, unknown bits and a check value as they are drawn -/
structure DrU (s : ByteArray) (u : List Nat) (c : Nat) : Prop where
  s1 : 1 ≤ s.size
  s2 : s.size ≤ 64
  ub : ∀ b ∈ u, b < 8 * s.size
  ur : u.Pairwise (· < ·)
  ul : u.length ≤ 20
  cl : c < 65536
set_option maxRecDepth 20000 in
set_option maxHeartbeats 8000000 in
theorem drawU_s (g : Nat) (A : Option Addr) (n c a : Nat) (w : World) (h : DrAt w g A n c a) (hn : n ≤ 1048576) (ha : a ≤ 1048576) :
    Calls Try.prog 83 #[.pointer (some ⟨g, 0, none⟩), .int .i64 20] w fun e w' => ∃ (s : ByteArray) (v : Value) (u : List Nat) (k : Nat), e = .returned (.tuple #[.string s, v, .int .i64 k]) ∧ DrU s u k ∧ Int64L w.heap.size w' v (intsN u) ∧ Chg g (g + 1) w w' := by
  obtain ⟨i0, hi, hz0, hz1, hz2⟩ := info_parts icell_info
  obtain ⟨i1, ji, jz0, jz1, jz2⟩ := info_parts ucell_info
  go_enter Try.func83, Try.ntmps83
  go_wp2_with (fail)
  refine (pick_s g A n c a 10 _ h hn (by omega) (by omega)).mono ?_; rintro e w1 ⟨r1, hr1, rfl, a1, h11, h12, D1, C1, S1⟩
  go_wp2_with (fail)
  refine (one_s g A n c a1 20 _ D1 hn (by omega) (by omega)).mono ?_; rintro e w3 ⟨b3, rfl, a3, h31, h32, D3, C3, S3⟩
  have C13 := C1.trans C3
  have hgw := h.lt
  clear h C1 C3 D1
  have hz3 : w.heap.size ≤ w3.heap.size := by omega
  clear S1 S3
  cases b3
  · obtain ⟨N, hN⟩ : ∃ N : Nat, 1 + (r1 : Int) = N := ⟨1 + r1, by omega⟩
    rw [hN]
    have hN1 : 1 ≤ N ∧ N ≤ 64 := by omega
    clear hN hr1
    obtain ⟨w4, rfl⟩ : ∃ w4, w4 = w3 := ⟨w3, rfl⟩
    obtain ⟨a4, rfl⟩ : ∃ a4, a4 = a3 := ⟨a3, rfl⟩
    have D4 := D3
    have C04 := C13
    clear D3 C13
    have hNN : (N : Int) ≤ 64 := by omega
    obtain ⟨M, hMN⟩ : ∃ M : Nat, M = 8 * N := ⟨_, rfl⟩
    have hM : 8 * (N : Int) = (M : Int) := by omega
    have hM1 : 8 ≤ M ∧ M ≤ 512 := by omega
    have HMN := Lib.hid hMN
    clear hMN
    have zw4 : w.heap.size ≤ w4.heap.size := C04.size
    have HC4 := Lib.hid C04
    have oute : BytesL w4.heap.size (w4.alloc (.cells #[] 5)) (.slice (some ⟨w4.heap.size, 0, none⟩) 0 0) [] := OwnL.of_empty w4 (Nat.le_refl _)
    clear C04
    go_wp2_with (fail)
    go_loopw [9, 8] (fun i out wx => ∃ (k2 a' : Nat) (bl : List Nat), k2 ≤ N ∧ i = .int .i64 k2 ∧ bl.length = k2 ∧ (∀ x ∈ bl, x < 256) ∧ a' ≤ a4 + k2 ∧ DrAt wx g A n c a' ∧ Chg g (g + 1) w4 wx ∧ BytesL w4.heap.size wx out bl) (fun i _ _ => N - (intOf i).toNat)
    case atStart => exact ⟨0, a4, [], by omega, rfl, rfl, by simp, by omega, D4.alloc _, (Chg.of_below (Below.refl _ _)).alloc _, oute⟩
    case round =>
      clear oute D4
      obtain ⟨k2, a8, bl, hk2, rfl, hbl, hblt, ha8, D8, C8, O8⟩ := hrel
      have hz8 := C8.size
      have hlb8 := fun q hq => (World.ownsRow.lt O8 q hq)
      by_cases hlt2 : k2 < N
      · have HO8 := Lib.hid O8
        have HC8 := Lib.hid C8
        clear O8 C8
        go_wp2_with (fail)
        refine (next_s g A n c a8 _ D8 hn (by omega)).mono ?_; rintro e w9 ⟨r, hr, rfl, D9, C9, S9⟩
        have O9 : BytesL w4.heap.size w9 u8 bl := OwnL.blk HO8.out (fun q hq => C9.block q (hlb8 q hq).2 (by have := (hlb8 q hq).1; omega))
        have C79 := Lib.hid (HC8.out.trans C9)
        have HO9 := Lib.hid O9
        have S9' : w4.heap.size ≤ w9.heap.size := by omega
        clear O9 C9 D8 S9
        go_wp2_with (at_builtin; refine wpList_app1 ucell 1 ucell_len _ rfl _ _ _ rfl w4.heap.size 5 i1 (.int .u8 0) 1 Try.underlying54 ji jz0 jz1 jz2 rfl (by decide) _ bl rfl (HO9.out.alloc _) w9.heap.size 1 r rfl ?_ (by simp [ucell, Value.oneCell']) (by omega) (by omega) (by simp; omega) ?_; (· intro j u hu; cases j with | zero => (simp [ucell] at hu; subst hu; simp) | succ j => simp [ucell] at hu); intro v' w10 how10 hg10)
        go_roundw
        case rel => exact ⟨k2 + 1, a8 + 1, bl ++ [r], by omega, by go_num, by simp; omega, fun x hx => by
          rcases List.mem_append.1 hx with hx | hx
          · exact hblt x hx
          · obtain rfl : x = r := by simpa using hx
            exact hr, by omega, (D9.alloc _).grown hg10 (fun q hq => by have := (hlb8 q hq).1; omega), (C79.out.alloc _).grown hg10 (fun q hq => (hlb8 q hq).1), how10⟩
        case measure => simp [intOf]; omega
      · have hbz : bl.length = N := by omega
        obtain ⟨A8, c8, rfl, hA8⟩ := OwnL.shape O8
        obtain ⟨gb, rfl, hgb1, hgb2⟩ := hA8.resolve_left (by rintro rfl; simp at hbz; try omega)
        have hgg : g < gb := by omega
        have HB8 := Lib.hid (BytesL.buf O8 rfl)
        have C05 := Lib.hid (HC4.out.trans C8)
        have z5 := C05.out.size
        try rw [hbz]
        have HBL := Lib.hid hbz
        have HBT := Lib.hid hblt
        clear O8 C8 hA8 hlb8 hbl hbz hblt HC4
        generalize hw5 : wr = w5 at *
        clear hw5
        have D5 := D8.alloc (.cells #[] 2)
        have C5a := C05.out.alloc (.cells #[] 2)
        have HB5 := Lib.hid (HB8.out.below (Below.alloc (Below.refl w5.heap.size w5) (Nat.le_refl _) (.cells #[] 2)) hgb2)
        have HU0 : Hid (Int64L w5.heap.size (w5.alloc (.cells #[] 2)) (.slice (some ⟨w5.heap.size, 0, none⟩) 0 0) (intsN [])) := Lib.hid (OwnL.of_empty w5 (Nat.le_refl _))
        have HC5 := Lib.hid C5a
        have hz5a : w5.heap.size ≤ (w5.alloc (.cells #[] 2)).heap.size := by simp
        clear D8 HB8 C5a C05
        go_wp2_with (fail)
        refine (pick_s g A n c a8 M _ D5 hn (by omega) (by omega)).mono ?_; rintro e w6 ⟨r6, hr6, rfl, a6, h61, h62, D6, C6, S6⟩
        have hr6' : r6 ≤ 512 := by omega
        have hlU0 := World.ownsRow.lt HU0.out
        have HU6 := Lib.hid (OwnL.blk (w' := w6) HU0.out (fun q hq => C6.block q (hlU0 q hq).2 (by have := (hlU0 q hq).1; omega)))
        have HB6 := Lib.hid (HB5.out.block (C6.block gb (by omega) (by omega)))
        have HC6 := Lib.hid (HC5.out.trans C6)
        have z6 : w5.heap.size ≤ w6.heap.size := by omega
        clear D5 HU0 HB5 HC5 C6 hlU0
        go_wp2_with (fail)
        refine (pick_s g A n c a6 20 _ D6 hn (by omega) (by omega)).mono ?_; rintro e w7 ⟨r7, hr7, rfl, a7, h71, h72, D7, C7, S7⟩
        have hr7' : r7 ≤ 19 := by omega
        have hlU6 := World.ownsRow.lt HU6.out
        have HU7 := Lib.hid (OwnL.blk (w' := w7) HU6.out (fun q hq => C7.block q (hlU6 q hq).2 (by have := (hlU6 q hq).1; omega)))
        have HB7 := Lib.hid (HB6.out.block (C7.block gb (by omega) (by omega)))
        have HC7 := Lib.hid (HC6.out.trans C7)
        have z7 : w5.heap.size ≤ w7.heap.size := by omega
        clear D6 HU6 HB6 HC6 C7 hlU6 hr6 hr7
        go_wp2_with (fail)
        go_loopw [12, 10, 11] (fun i x y wr => ∃ (j p a' : Nat) (u : List Nat), i = .int .i64 j ∧ y = .int .i64 p ∧ j + u.length ≤ 19 ∧ p + 3 * j ≤ 700 ∧ a' + 6 * j ≤ a7 + 114 ∧ Hid ((∀ b ∈ u, b < M) ∧ u.Pairwise (· < ·)) ∧ DrAt wr g A n c a' ∧ Hid (Chg g (g + 1) w wr) ∧ w5.heap.size ≤ wr.heap.size ∧ Hid (Buf wr gb bl) ∧ Hid (Int64L w5.heap.size wr x (intsN u))) (fun i _ _ _ => (intOf i).toNat)
        case atStart => exact ⟨r7, r6, a7, [], rfl, rfl, by simp; omega, by omega, by omega, Lib.hid ⟨by simp, List.Pairwise.nil⟩, D7, HC7, z7, HB7, HU7⟩
        case round =>
          clear D7 HC7 HB7 HU7
          obtain ⟨j, p, a9, u, rfl, rfl, hju, hpj, haj, HU, D9, HC, hz9, HB, HX⟩ := hrel
          have hD9g := D9.lt
          have hlX := World.ownsRow.lt HX.out
          obtain ⟨Ax, cx, rfl, _⟩ := OwnL.shape HX.out
          by_cases hj0 : 0 < j
          · obtain ⟨i9, rfl⟩ : ∃ i9, j = i9 + 1 := ⟨j - 1, by omega⟩
            have hrem : (p : Int).tmod (M : Int) = ((p % M : Nat) : Int) := by rw [Int.tmod_eq_emod_of_nonneg (by omega)]; push_cast; rfl
            have hrem2 : (p : Int) % (M : Int) = ((p % M : Nat) : Int) := by push_cast; rfl
            have hpm : p % M < M := Nat.mod_lt _ (by omega)
            have HPU := Lib.hid (lput_s u (p % M) _ wr (intsAt_own HX.out) (by omega))
            have HUN : Hid ((∀ b ∈ insU (p % M) u, b < M) ∧ (insU (p % M) u).Pairwise (· < ·)) := Lib.hid ⟨fun b hb => (insU_mem.1 hb).elim (fun h => by rw [h]; exact hpm) (HU.out.1 b), insU_srt HU.out.2⟩
            have hul := insU_len (p % M) u
            generalize insU (p % M) u = u2 at *
            generalize p % M = q at *
            have hgbr : gb < wr.heap.size := by omega
            clear HU
            go_wp2_with (fail)
            refine HPU.out.mono ?_; rintro e w10 ⟨v10, rfl, o10, hb10⟩
            have D10 := D9.belowK hb10 hD9g
            have HB10 := Lib.hid (HB.out.below hb10 hgbr)
            have HC10 := Lib.hid (HC.out.belowK hb10 (by have := HC.out.size; omega))
            have z10 := hb10.size
            have HX10 := Lib.hid (OwnL.base (B' := w5.heap.size) o10 hz9)
            have hlX10 := World.ownsRow.lt HX10.out
            obtain ⟨Aq, cq, rfl, _⟩ := OwnL.shape o10
            clear HPU HX HB HC D9 o10
            go_wp2_with (fail)
            refine (pick_s g A n c a9 2 _ D10 hn (by omega) (by omega)).mono ?_; rintro e w11 ⟨r11, hr11, rfl, a11, h111, h112, D11, C11, S11⟩
            have hr11' : r11 ≤ 1 := by omega
            have HX11 := Lib.hid (OwnL.blk (w' := w11) HX10.out (fun q hq => C11.block q (hlX10 q hq).2 (by have := (hlX10 q hq).1; omega)))
            have HB11 := Lib.hid (HB10.out.block (C11.block gb (by omega) (by omega)))
            have HC11 := Lib.hid (HC10.out.trans C11)
            have z11 : w5.heap.size ≤ w11.heap.size := by omega
            clear D10 HX10 HB10 HC10 C11 hr11
            go_wp2_with (fail)
            refine (one_s g A n c a11 8 _ D11 hn (by omega) (by omega)).mono ?_; rintro e w12 ⟨b12, rfl, a12, h121, h122, D12, C12, S12⟩
            have hlX11 := World.ownsRow.lt HX11.out
            have HX12 := Lib.hid (OwnL.blk (w' := w12) HX11.out (fun q hq => C12.block q (hlX11 q hq).2 (by have := (hlX11 q hq).1; omega)))
            have HB12 := Lib.hid (HB11.out.block (C12.block gb (by omega) (by omega)))
            have HC12 := Lib.hid (HC11.out.trans C12)
            have z12 : w5.heap.size ≤ w12.heap.size := by omega
            clear D11 HX11 HB11 HC11 C12 hlX11
            cases b12
            · go_wp2_with (fail)
              go_roundw
              case rel => exact ⟨i9, p + (1 + r11), a12, u2, by go_num, by go_num, by omega, by omega, by omega, HUN, D12, HC12, z12, HB12, HX12⟩
              case measure => first | (simp [intOf]; done) | (simp [intOf]; omega)
            · go_wp2_with (fail)
              refine (pick_s g A n c a12 M _ D12 hn (by omega) (by omega)).mono ?_; rintro e w13 ⟨r13, hr13, rfl, a13, h131, h132, D13, C13, S13⟩
              have hr13' : r13 ≤ 512 := by omega
              have hlX12 := World.ownsRow.lt HX12.out
              have HX13 := Lib.hid (OwnL.blk (w' := w13) HX12.out (fun q hq => C13.block q (hlX12 q hq).2 (by have := (hlX12 q hq).1; omega)))
              have HB13 := Lib.hid (HB12.out.block (C13.block gb (by omega) (by omega)))
              have HC13 := Lib.hid (HC12.out.trans C13)
              have z13 : w5.heap.size ≤ w13.heap.size := by omega
              clear D12 HX12 HB12 HC12 C13 hlX12 hr13
              go_wp2_with (fail)
              go_roundw
              case rel => exact ⟨i9, r13, a13, u2, by go_num, rfl, by omega, by omega, by omega, HUN, D13, HC13, z13, HB13, HX13⟩
              case measure => first | (simp [intOf]; done) | (simp [intOf]; omega)
          · obtain rfl : j = 0 := by omega
            have hgbr : gb < wr.heap.size := by omega
            rw [intsN_len] at HX
            try rw [intsN_len]
            have HCR := Lib.hid (fun W (hB : Buf W gb bl) => crcb_s gb c8 N bl W hB HBL.out (by omega) HBT.out)
            have hcl := crcN_lt bl 65535 (by omega)
            generalize crcN bl 65535 = cr at *
            go_wp2_with (fail)
            refine (HCR.out _ HB.out).mono ?_; rintro e w14 ⟨rfl, rfl⟩
            clear HCR
            go_wp2_with (fail)
            have HI := Lib.hid (intsAt_own HX.out)
            generalize hwo : wr = wo at *
            clear hwo
            have hzo := hz9
            have HA0 : Hid (Buf wo gb bl) := HB
            go_loopw [14] (fun i wr => ∃ (k a' : Nat) (b2 : List Nat), k ≤ u.length ∧ i = .int .i64 k ∧ a' ≤ a9 + 2 * k ∧ DrAt wr g A n c a' ∧ Hid (Chg g (g + 1) w wr) ∧ w5.heap.size ≤ wr.heap.size ∧ Hid (b2.length = N ∧ ∀ x ∈ b2, x < 256) ∧ Hid (Buf wr gb b2) ∧ Hid (Int64L w5.heap.size wr (.slice Ax u.length cx) (intsN u))) (fun i _ => u.length - (intOf i).toNat)
            case atStart => exact ⟨0, a9, bl, by omega, rfl, by omega, D9, HC, hz9, Lib.hid ⟨HBL.out, HBT.out⟩, HB, HX⟩
            case round =>
              clear D9 HC HX HB HA0 HI hz9 hgbr hD9g hlX
              obtain ⟨k, a10, b2, hk, rfl, ha10, D10, HC10, z10, HBT2, HB10, HX10⟩ := hrel
              have hgbw : gb < wr.heap.size := by omega
              by_cases hltk : k < u.length
              · obtain ⟨b, hbk⟩ : ∃ b, u[k]? = some b := ⟨u[k], List.getElem?_eq_getElem hltk⟩
                have hbM := HU.out.1 b (List.mem_of_getElem? hbk)
                have hlX10 := World.ownsRow.lt HX10.out
                go_wp2_with (fail)
                refine (one_s g A n c a10 2 _ D10 hn (by omega) (by omega)).mono ?_; rintro e w15 ⟨b15, rfl, a15, h151, h152, D15, C15, S15⟩
                have HX15 := Lib.hid (OwnL.blk (w' := w15) HX10.out (fun q hq => C15.block q (hlX10 q hq).2 (by have := (hlX10 q hq).1; omega)))
                have HB15 := Lib.hid (HB10.out.block (C15.block gb (by omega) (by omega)))
                have HC15 := Lib.hid (HC10.out.trans C15)
                have z15 : w5.heap.size ≤ w15.heap.size := by omega
                clear D10 HX10 HB10 HC10 C15
                cases b15
                · clear hbk
                  go_wp2_with (fail)
                  go_roundw
                  case rel => exact ⟨k + 1, a15, b2, by omega, by go_num, by omega, D15, HC15, z15, HBT2, HB15, HX15⟩
                  case measure => simp [intOf]; omega
                · have hlX15 := World.ownsRow.lt HX15.out
                  obtain ⟨A15, c15, hv15, hA15⟩ := intsAt_own HX15.out
                  obtain ⟨rfl, -, rfl⟩ : Ax = A15 ∧ True ∧ cx = c15 := by injection hv15 with h1 h2 h3; exact ⟨h1, trivial, h3⟩
                  obtain ⟨gu, rfl, hgu, hcu⟩ := hA15.resolve_left (by intro h0; have := congrArg List.length h0; rw [intsN_len] at this; simp only [List.length_nil] at this; omega)
                  have p0 := hcu k _ (intsN_get hbk)
                  have hgu5 := (hlX15 gu rfl).1
                  have HFL := Lib.hid (fun W (hz : gb < W.heap.size) (hB : Buf W gb b2) => by have := flip_s gb c8 b b2 W hz hB (by have := HBT2.out.1; have := HMN.out; omega) (by have := HBT2.out.1; omega) HBT2.out.2; rw [HBT2.out.1] at this; exact this)
                  have HFT : Hid ((flipN b2 b).length = N ∧ ∀ x ∈ flipN b2 b, x < 256) := Lib.hid ⟨by rw [flipN_len]; exact HBT2.out.1, flipN_lt HBT2.out.2⟩
                  clear hbk hcu hv15 hA15
                  go_wp2_with (fail)
                  refine (HFL.out _ (by omega) HB15.out).mono ?_; rintro e w16 ⟨rfl, hB16, C16, S16⟩
                  have HB16 := Lib.hid hB16
                  have HX16 := Lib.hid (OwnL.blk (w' := w16) HX15.out (fun q hq => C16.block q (hlX15 q hq).2 (by have := (hlX15 q hq).1; omega)))
                  have HC16 := Lib.hid (Chg.blkIn HC15.out C16 (by omega))
                  have D16 := D15.keep (fun q hq => C16.block q (Nat.lt_of_le_of_lt hq D15.lt) (by omega)) C16.size
                  have z16 : w5.heap.size ≤ w16.heap.size := by omega
                  clear D15 HX15 HB15 HC15 C16 hB16 HFL
                  go_wp2_with (fail)
                  go_roundw
                  case rel => exact ⟨k + 1, a15, flipN b2 b, by omega, by go_num, by omega, D16, HC16, z16, HFT, HB16, HX16⟩
                  case measure => simp [intOf]; omega
              · obtain rfl : k = u.length := by omega
                go_wp2_with (fail)
                refine (one_s g A n c a10 6 _ D10 hn (by omega) (by omega)).mono ?_; rintro e w15 ⟨b15, rfl, a15, h151, h152, D15, C15, S15⟩
                have hlX10 := World.ownsRow.lt HX10.out
                have HX15 := Lib.hid (OwnL.blk (w' := w15) HX10.out (fun q hq => C15.block q (hlX10 q hq).2 (by have := (hlX10 q hq).1; omega)))
                have HB15 := Lib.hid (HB10.out.block (C15.block gb (by omega) (by omega)))
                have HC15 := Lib.hid (HC10.out.trans C15)
                have z15 : w5.heap.size ≤ w15.heap.size := by omega
                clear D10 HX10 HB10 HC10 C15 hlX10
                have HU20 : Hid (∀ k, k < 65536 → DrU (strN b2) u k) := Lib.hid (fun k hk => ⟨by rw [strN_size, HBT2.out.1]; omega, by rw [strN_size, HBT2.out.1]; omega, by rw [strN_size, HBT2.out.1]; intro b hb; have := HU.out.1 b hb; have := HMN.out; omega, HU.out.2, by omega, hk⟩)
                cases b15
                · have hst := HB15.out.str (n := N) (c := c8) HBT2.out.1
                  go_wp2
                  go_ret3
                  exact ⟨_, _, u, cr, rfl, HU20.out cr hcl, OwnL.base HX15.out (by omega), HC15.out⟩
                · go_wp2_with (fail)
                  refine (pick_s g A n c a15 65536 _ D15 hn (by omega) (by omega)).mono ?_; rintro e w16 ⟨r16, hr16, rfl, a16, h161, h162, D16, C16, S16⟩
                  have hlX15 := World.ownsRow.lt HX15.out
                  have HX16 := Lib.hid (OwnL.blk (w' := w16) HX15.out (fun q hq => C16.block q (hlX15 q hq).2 (by have := (hlX15 q hq).1; omega)))
                  have HB16 := HB15.out.block (C16.block gb (by omega) (by omega))
                  have HC16 := Lib.hid (HC15.out.trans C16)
                  have hst := HB16.str (n := N) (c := c8) HBT2.out.1
                  have z16 : w5.heap.size ≤ w16.heap.size := by omega
                  clear HX15 HB15 HC15 C16
                  go_wp2
                  go_ret3
                  exact ⟨_, _, u, r16, rfl, HU20.out r16 (by omega), OwnL.base HX16.out (by omega), HC16.out⟩
  · go_wp2_with (fail)
    have D3a := D3.alloc (.cells #[.int .i64 64, .int .i64 40] 2)
    refine (among_s g A n c a3 w3.heap.size 2 [64, 40] _ D3a hn (by omega) (by simp) (by simp) D3.lt (by simp) ?_).mono ?_
    · intro j x hj
      match j, hj with
      | 0, hj => simp at hj; subst hj; simp
      | 1, hj => simp at hj; subst hj; simp
      | j + 2, hj => simp at hj
    rintro e w4 ⟨x, hx, rfl, a4, h51, h52, D4, C5, S5⟩
    have S5' : w3.heap.size + 1 ≤ w4.heap.size := by simp at S5; omega
    have C04 : Chg g (g + 1) w w4 := (C13.alloc (.cells #[.int .i64 64, .int .i64 40] 2)).trans C5
    obtain ⟨N, rfl, hN1⟩ : ∃ N : Nat, x = N ∧ (1 ≤ N ∧ N ≤ 64) := by
      simp at hx
      rcases hx with rfl | rfl
      · exact ⟨64, rfl, by omega⟩
      · exact ⟨40, rfl, by omega⟩
    clear hx hr1 S5 D3a D3 C13 C5
    have hNN : (N : Int) ≤ 64 := by omega
    obtain ⟨M, hMN⟩ : ∃ M : Nat, M = 8 * N := ⟨_, rfl⟩
    have hM : 8 * (N : Int) = (M : Int) := by omega
    have hM1 : 8 ≤ M ∧ M ≤ 512 := by omega
    have HMN := Lib.hid hMN
    clear hMN
    have zw4 : w.heap.size ≤ w4.heap.size := C04.size
    have HC4 := Lib.hid C04
    have oute : BytesL w4.heap.size (w4.alloc (.cells #[] 5)) (.slice (some ⟨w4.heap.size, 0, none⟩) 0 0) [] := OwnL.of_empty w4 (Nat.le_refl _)
    clear C04
    go_wp2_with (fail)
    go_loopw [9, 8] (fun i out wx => ∃ (k2 a' : Nat) (bl : List Nat), k2 ≤ N ∧ i = .int .i64 k2 ∧ bl.length = k2 ∧ (∀ x ∈ bl, x < 256) ∧ a' ≤ a4 + k2 ∧ DrAt wx g A n c a' ∧ Chg g (g + 1) w4 wx ∧ BytesL w4.heap.size wx out bl) (fun i _ _ => N - (intOf i).toNat)
    case atStart => exact ⟨0, a4, [], by omega, rfl, rfl, by simp, by omega, D4.alloc _, (Chg.of_below (Below.refl _ _)).alloc _, oute⟩
    case round =>
      clear oute D4
      obtain ⟨k2, a8, bl, hk2, rfl, hbl, hblt, ha8, D8, C8, O8⟩ := hrel
      have hz8 := C8.size
      have hlb8 := fun q hq => (World.ownsRow.lt O8 q hq)
      by_cases hlt2 : k2 < N
      · have HO8 := Lib.hid O8
        have HC8 := Lib.hid C8
        clear O8 C8
        go_wp2_with (fail)
        refine (next_s g A n c a8 _ D8 hn (by omega)).mono ?_; rintro e w9 ⟨r, hr, rfl, D9, C9, S9⟩
        have O9 : BytesL w4.heap.size w9 u8 bl := OwnL.blk HO8.out (fun q hq => C9.block q (hlb8 q hq).2 (by have := (hlb8 q hq).1; omega))
        have C79 := Lib.hid (HC8.out.trans C9)
        have HO9 := Lib.hid O9
        have S9' : w4.heap.size ≤ w9.heap.size := by omega
        clear O9 C9 D8 S9
        go_wp2_with (at_builtin; refine wpList_app1 ucell 1 ucell_len _ rfl _ _ _ rfl w4.heap.size 5 i1 (.int .u8 0) 1 Try.underlying54 ji jz0 jz1 jz2 rfl (by decide) _ bl rfl (HO9.out.alloc _) w9.heap.size 1 r rfl ?_ (by simp [ucell, Value.oneCell']) (by omega) (by omega) (by simp; omega) ?_; (· intro j u hu; cases j with | zero => (simp [ucell] at hu; subst hu; simp) | succ j => simp [ucell] at hu); intro v' w10 how10 hg10)
        go_roundw
        case rel => exact ⟨k2 + 1, a8 + 1, bl ++ [r], by omega, by go_num, by simp; omega, fun x hx => by
          rcases List.mem_append.1 hx with hx | hx
          · exact hblt x hx
          · obtain rfl : x = r := by simpa using hx
            exact hr, by omega, (D9.alloc _).grown hg10 (fun q hq => by have := (hlb8 q hq).1; omega), (C79.out.alloc _).grown hg10 (fun q hq => (hlb8 q hq).1), how10⟩
        case measure => simp [intOf]; omega
      · have hbz : bl.length = N := by omega
        obtain ⟨A8, c8, rfl, hA8⟩ := OwnL.shape O8
        obtain ⟨gb, rfl, hgb1, hgb2⟩ := hA8.resolve_left (by rintro rfl; simp at hbz; try omega)
        have hgg : g < gb := by omega
        have HB8 := Lib.hid (BytesL.buf O8 rfl)
        have C05 := Lib.hid (HC4.out.trans C8)
        have z5 := C05.out.size
        try rw [hbz]
        have HBL := Lib.hid hbz
        have HBT := Lib.hid hblt
        clear O8 C8 hA8 hlb8 hbl hbz hblt HC4
        generalize hw5 : wr = w5 at *
        clear hw5
        have D5 := D8.alloc (.cells #[] 2)
        have C5a := C05.out.alloc (.cells #[] 2)
        have HB5 := Lib.hid (HB8.out.below (Below.alloc (Below.refl w5.heap.size w5) (Nat.le_refl _) (.cells #[] 2)) hgb2)
        have HU0 : Hid (Int64L w5.heap.size (w5.alloc (.cells #[] 2)) (.slice (some ⟨w5.heap.size, 0, none⟩) 0 0) (intsN [])) := Lib.hid (OwnL.of_empty w5 (Nat.le_refl _))
        have HC5 := Lib.hid C5a
        have hz5a : w5.heap.size ≤ (w5.alloc (.cells #[] 2)).heap.size := by simp
        clear D8 HB8 C5a C05
        go_wp2_with (fail)
        refine (pick_s g A n c a8 M _ D5 hn (by omega) (by omega)).mono ?_; rintro e w6 ⟨r6, hr6, rfl, a6, h61, h62, D6, C6, S6⟩
        have hr6' : r6 ≤ 512 := by omega
        have hlU0 := World.ownsRow.lt HU0.out
        have HU6 := Lib.hid (OwnL.blk (w' := w6) HU0.out (fun q hq => C6.block q (hlU0 q hq).2 (by have := (hlU0 q hq).1; omega)))
        have HB6 := Lib.hid (HB5.out.block (C6.block gb (by omega) (by omega)))
        have HC6 := Lib.hid (HC5.out.trans C6)
        have z6 : w5.heap.size ≤ w6.heap.size := by omega
        clear D5 HU0 HB5 HC5 C6 hlU0
        go_wp2_with (fail)
        refine (pick_s g A n c a6 20 _ D6 hn (by omega) (by omega)).mono ?_; rintro e w7 ⟨r7, hr7, rfl, a7, h71, h72, D7, C7, S7⟩
        have hr7' : r7 ≤ 19 := by omega
        have hlU6 := World.ownsRow.lt HU6.out
        have HU7 := Lib.hid (OwnL.blk (w' := w7) HU6.out (fun q hq => C7.block q (hlU6 q hq).2 (by have := (hlU6 q hq).1; omega)))
        have HB7 := Lib.hid (HB6.out.block (C7.block gb (by omega) (by omega)))
        have HC7 := Lib.hid (HC6.out.trans C7)
        have z7 : w5.heap.size ≤ w7.heap.size := by omega
        clear D6 HU6 HB6 HC6 C7 hlU6 hr6 hr7
        go_wp2_with (fail)
        go_loopw [12, 10, 11] (fun i x y wr => ∃ (j p a' : Nat) (u : List Nat), i = .int .i64 j ∧ y = .int .i64 p ∧ j + u.length ≤ 19 ∧ p + 3 * j ≤ 700 ∧ a' + 6 * j ≤ a7 + 114 ∧ Hid ((∀ b ∈ u, b < M) ∧ u.Pairwise (· < ·)) ∧ DrAt wr g A n c a' ∧ Hid (Chg g (g + 1) w wr) ∧ w5.heap.size ≤ wr.heap.size ∧ Hid (Buf wr gb bl) ∧ Hid (Int64L w5.heap.size wr x (intsN u))) (fun i _ _ _ => (intOf i).toNat)
        case atStart => exact ⟨r7, r6, a7, [], rfl, rfl, by simp; omega, by omega, by omega, Lib.hid ⟨by simp, List.Pairwise.nil⟩, D7, HC7, z7, HB7, HU7⟩
        case round =>
          clear D7 HC7 HB7 HU7
          obtain ⟨j, p, a9, u, rfl, rfl, hju, hpj, haj, HU, D9, HC, hz9, HB, HX⟩ := hrel
          have hD9g := D9.lt
          have hlX := World.ownsRow.lt HX.out
          obtain ⟨Ax, cx, rfl, _⟩ := OwnL.shape HX.out
          by_cases hj0 : 0 < j
          · obtain ⟨i9, rfl⟩ : ∃ i9, j = i9 + 1 := ⟨j - 1, by omega⟩
            have hrem : (p : Int).tmod (M : Int) = ((p % M : Nat) : Int) := by rw [Int.tmod_eq_emod_of_nonneg (by omega)]; push_cast; rfl
            have hrem2 : (p : Int) % (M : Int) = ((p % M : Nat) : Int) := by push_cast; rfl
            have hpm : p % M < M := Nat.mod_lt _ (by omega)
            have HPU := Lib.hid (lput_s u (p % M) _ wr (intsAt_own HX.out) (by omega))
            have HUN : Hid ((∀ b ∈ insU (p % M) u, b < M) ∧ (insU (p % M) u).Pairwise (· < ·)) := Lib.hid ⟨fun b hb => (insU_mem.1 hb).elim (fun h => by rw [h]; exact hpm) (HU.out.1 b), insU_srt HU.out.2⟩
            have hul := insU_len (p % M) u
            generalize insU (p % M) u = u2 at *
            generalize p % M = q at *
            have hgbr : gb < wr.heap.size := by omega
            clear HU
            go_wp2_with (fail)
            refine HPU.out.mono ?_; rintro e w10 ⟨v10, rfl, o10, hb10⟩
            have D10 := D9.belowK hb10 hD9g
            have HB10 := Lib.hid (HB.out.below hb10 hgbr)
            have HC10 := Lib.hid (HC.out.belowK hb10 (by have := HC.out.size; omega))
            have z10 := hb10.size
            have HX10 := Lib.hid (OwnL.base (B' := w5.heap.size) o10 hz9)
            have hlX10 := World.ownsRow.lt HX10.out
            obtain ⟨Aq, cq, rfl, _⟩ := OwnL.shape o10
            clear HPU HX HB HC D9 o10
            go_wp2_with (fail)
            refine (pick_s g A n c a9 2 _ D10 hn (by omega) (by omega)).mono ?_; rintro e w11 ⟨r11, hr11, rfl, a11, h111, h112, D11, C11, S11⟩
            have hr11' : r11 ≤ 1 := by omega
            have HX11 := Lib.hid (OwnL.blk (w' := w11) HX10.out (fun q hq => C11.block q (hlX10 q hq).2 (by have := (hlX10 q hq).1; omega)))
            have HB11 := Lib.hid (HB10.out.block (C11.block gb (by omega) (by omega)))
            have HC11 := Lib.hid (HC10.out.trans C11)
            have z11 : w5.heap.size ≤ w11.heap.size := by omega
            clear D10 HX10 HB10 HC10 C11 hr11
            go_wp2_with (fail)
            refine (one_s g A n c a11 8 _ D11 hn (by omega) (by omega)).mono ?_; rintro e w12 ⟨b12, rfl, a12, h121, h122, D12, C12, S12⟩
            have hlX11 := World.ownsRow.lt HX11.out
            have HX12 := Lib.hid (OwnL.blk (w' := w12) HX11.out (fun q hq => C12.block q (hlX11 q hq).2 (by have := (hlX11 q hq).1; omega)))
            have HB12 := Lib.hid (HB11.out.block (C12.block gb (by omega) (by omega)))
            have HC12 := Lib.hid (HC11.out.trans C12)
            have z12 : w5.heap.size ≤ w12.heap.size := by omega
            clear D11 HX11 HB11 HC11 C12 hlX11
            cases b12
            · go_wp2_with (fail)
              go_roundw
              case rel => exact ⟨i9, p + (1 + r11), a12, u2, by go_num, by go_num, by omega, by omega, by omega, HUN, D12, HC12, z12, HB12, HX12⟩
              case measure => first | (simp [intOf]; done) | (simp [intOf]; omega)
            · go_wp2_with (fail)
              refine (pick_s g A n c a12 M _ D12 hn (by omega) (by omega)).mono ?_; rintro e w13 ⟨r13, hr13, rfl, a13, h131, h132, D13, C13, S13⟩
              have hr13' : r13 ≤ 512 := by omega
              have hlX12 := World.ownsRow.lt HX12.out
              have HX13 := Lib.hid (OwnL.blk (w' := w13) HX12.out (fun q hq => C13.block q (hlX12 q hq).2 (by have := (hlX12 q hq).1; omega)))
              have HB13 := Lib.hid (HB12.out.block (C13.block gb (by omega) (by omega)))
              have HC13 := Lib.hid (HC12.out.trans C13)
              have z13 : w5.heap.size ≤ w13.heap.size := by omega
              clear D12 HX12 HB12 HC12 C13 hlX12 hr13
              go_wp2_with (fail)
              go_roundw
              case rel => exact ⟨i9, r13, a13, u2, by go_num, rfl, by omega, by omega, by omega, HUN, D13, HC13, z13, HB13, HX13⟩
              case measure => first | (simp [intOf]; done) | (simp [intOf]; omega)
          · obtain rfl : j = 0 := by omega
            have hgbr : gb < wr.heap.size := by omega
            rw [intsN_len] at HX
            try rw [intsN_len]
            have HCR := Lib.hid (fun W (hB : Buf W gb bl) => crcb_s gb c8 N bl W hB HBL.out (by omega) HBT.out)
            have hcl := crcN_lt bl 65535 (by omega)
            generalize crcN bl 65535 = cr at *
            go_wp2_with (fail)
            refine (HCR.out _ HB.out).mono ?_; rintro e w14 ⟨rfl, rfl⟩
            clear HCR
            go_wp2_with (fail)
            have HI := Lib.hid (intsAt_own HX.out)
            generalize hwo : wr = wo at *
            clear hwo
            have hzo := hz9
            have HA0 : Hid (Buf wo gb bl) := HB
            go_loopw [14] (fun i wr => ∃ (k a' : Nat) (b2 : List Nat), k ≤ u.length ∧ i = .int .i64 k ∧ a' ≤ a9 + 2 * k ∧ DrAt wr g A n c a' ∧ Hid (Chg g (g + 1) w wr) ∧ w5.heap.size ≤ wr.heap.size ∧ Hid (b2.length = N ∧ ∀ x ∈ b2, x < 256) ∧ Hid (Buf wr gb b2) ∧ Hid (Int64L w5.heap.size wr (.slice Ax u.length cx) (intsN u))) (fun i _ => u.length - (intOf i).toNat)
            case atStart => exact ⟨0, a9, bl, by omega, rfl, by omega, D9, HC, hz9, Lib.hid ⟨HBL.out, HBT.out⟩, HB, HX⟩
            case round =>
              clear D9 HC HX HB HA0 HI hz9 hgbr hD9g hlX
              obtain ⟨k, a10, b2, hk, rfl, ha10, D10, HC10, z10, HBT2, HB10, HX10⟩ := hrel
              have hgbw : gb < wr.heap.size := by omega
              by_cases hltk : k < u.length
              · obtain ⟨b, hbk⟩ : ∃ b, u[k]? = some b := ⟨u[k], List.getElem?_eq_getElem hltk⟩
                have hbM := HU.out.1 b (List.mem_of_getElem? hbk)
                have hlX10 := World.ownsRow.lt HX10.out
                go_wp2_with (fail)
                refine (one_s g A n c a10 2 _ D10 hn (by omega) (by omega)).mono ?_; rintro e w15 ⟨b15, rfl, a15, h151, h152, D15, C15, S15⟩
                have HX15 := Lib.hid (OwnL.blk (w' := w15) HX10.out (fun q hq => C15.block q (hlX10 q hq).2 (by have := (hlX10 q hq).1; omega)))
                have HB15 := Lib.hid (HB10.out.block (C15.block gb (by omega) (by omega)))
                have HC15 := Lib.hid (HC10.out.trans C15)
                have z15 : w5.heap.size ≤ w15.heap.size := by omega
                clear D10 HX10 HB10 HC10 C15
                cases b15
                · clear hbk
                  go_wp2_with (fail)
                  go_roundw
                  case rel => exact ⟨k + 1, a15, b2, by omega, by go_num, by omega, D15, HC15, z15, HBT2, HB15, HX15⟩
                  case measure => simp [intOf]; omega
                · have hlX15 := World.ownsRow.lt HX15.out
                  obtain ⟨A15, c15, hv15, hA15⟩ := intsAt_own HX15.out
                  obtain ⟨rfl, -, rfl⟩ : Ax = A15 ∧ True ∧ cx = c15 := by injection hv15 with h1 h2 h3; exact ⟨h1, trivial, h3⟩
                  obtain ⟨gu, rfl, hgu, hcu⟩ := hA15.resolve_left (by intro h0; have := congrArg List.length h0; rw [intsN_len] at this; simp only [List.length_nil] at this; omega)
                  have p0 := hcu k _ (intsN_get hbk)
                  have hgu5 := (hlX15 gu rfl).1
                  have HFL := Lib.hid (fun W (hz : gb < W.heap.size) (hB : Buf W gb b2) => by have := flip_s gb c8 b b2 W hz hB (by have := HBT2.out.1; have := HMN.out; omega) (by have := HBT2.out.1; omega) HBT2.out.2; rw [HBT2.out.1] at this; exact this)
                  have HFT : Hid ((flipN b2 b).length = N ∧ ∀ x ∈ flipN b2 b, x < 256) := Lib.hid ⟨by rw [flipN_len]; exact HBT2.out.1, flipN_lt HBT2.out.2⟩
                  clear hbk hcu hv15 hA15
                  go_wp2_with (fail)
                  refine (HFL.out _ (by omega) HB15.out).mono ?_; rintro e w16 ⟨rfl, hB16, C16, S16⟩
                  have HB16 := Lib.hid hB16
                  have HX16 := Lib.hid (OwnL.blk (w' := w16) HX15.out (fun q hq => C16.block q (hlX15 q hq).2 (by have := (hlX15 q hq).1; omega)))
                  have HC16 := Lib.hid (Chg.blkIn HC15.out C16 (by omega))
                  have D16 := D15.keep (fun q hq => C16.block q (Nat.lt_of_le_of_lt hq D15.lt) (by omega)) C16.size
                  have z16 : w5.heap.size ≤ w16.heap.size := by omega
                  clear D15 HX15 HB15 HC15 C16 hB16 HFL
                  go_wp2_with (fail)
                  go_roundw
                  case rel => exact ⟨k + 1, a15, flipN b2 b, by omega, by go_num, by omega, D16, HC16, z16, HFT, HB16, HX16⟩
                  case measure => simp [intOf]; omega
              · obtain rfl : k = u.length := by omega
                go_wp2_with (fail)
                refine (one_s g A n c a10 6 _ D10 hn (by omega) (by omega)).mono ?_; rintro e w15 ⟨b15, rfl, a15, h151, h152, D15, C15, S15⟩
                have hlX10 := World.ownsRow.lt HX10.out
                have HX15 := Lib.hid (OwnL.blk (w' := w15) HX10.out (fun q hq => C15.block q (hlX10 q hq).2 (by have := (hlX10 q hq).1; omega)))
                have HB15 := Lib.hid (HB10.out.block (C15.block gb (by omega) (by omega)))
                have HC15 := Lib.hid (HC10.out.trans C15)
                have z15 : w5.heap.size ≤ w15.heap.size := by omega
                clear D10 HX10 HB10 HC10 C15 hlX10
                have HU20 : Hid (∀ k, k < 65536 → DrU (strN b2) u k) := Lib.hid (fun k hk => ⟨by rw [strN_size, HBT2.out.1]; omega, by rw [strN_size, HBT2.out.1]; omega, by rw [strN_size, HBT2.out.1]; intro b hb; have := HU.out.1 b hb; have := HMN.out; omega, HU.out.2, by omega, hk⟩)
                cases b15
                · have hst := HB15.out.str (n := N) (c := c8) HBT2.out.1
                  go_wp2
                  go_ret3
                  exact ⟨_, _, u, cr, rfl, HU20.out cr hcl, OwnL.base HX15.out (by omega), HC15.out⟩
                · go_wp2_with (fail)
                  refine (pick_s g A n c a15 65536 _ D15 hn (by omega) (by omega)).mono ?_; rintro e w16 ⟨r16, hr16, rfl, a16, h161, h162, D16, C16, S16⟩
                  have hlX15 := World.ownsRow.lt HX15.out
                  have HX16 := Lib.hid (OwnL.blk (w' := w16) HX15.out (fun q hq => C16.block q (hlX15 q hq).2 (by have := (hlX15 q hq).1; omega)))
                  have HB16 := HB15.out.block (C16.block gb (by omega) (by omega))
                  have HC16 := Lib.hid (HC15.out.trans C16)
                  have hst := HB16.str (n := N) (c := c8) HBT2.out.1
                  have z16 : w5.heap.size ≤ w16.heap.size := by omega
                  clear HX15 HB15 HC15 C16
                  go_wp2
                  go_ret3
                  exact ⟨_, _, u, r16, rfl, HU20.out r16 (by omega), OwnL.base HX16.out (by omega), HC16.out⟩
end Go.Proofs.Ytklalbbacbaoiaa
