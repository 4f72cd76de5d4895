/- A number put to its place among rising ones, once: plain law and the walk of l00Put. -/
import Derived.Test.YthchdbjgjnpooaaDoorRwL
import Derived.Test.YthchdbjgjnpooaaDoorRises
import Derived.Test.YthchdbjgjnpooaaDoorDrawB
namespace Go.Proofs.YthchdbjgjnpooaaDoor
set_option linter.unusedVariables false
set_option linter.unusedSimpArgs false
open Go.RowKit
def insU (x : Nat) : List Nat → List Nat
  | [] => [x]
  | a :: l => if x ≤ a then (if x < a then x :: a :: l else a :: l) else a :: insU x l
theorem insU_mem {x y : Nat} {l : List Nat} : y ∈ insU x l ↔ y = x ∨ y ∈ l := by
  induction l with
  | nil => simp [insU]
  | cons a l ih =>
    unfold insU
    split
    · split
      · simp
      · have : x = a := by omega
        subst this; simp
    · simp only [List.mem_cons, ih]
      constructor
      · rintro (h | h | h) <;> simp [h]
      · rintro (h | h | h) <;> simp [h]
theorem insU_srt {x : Nat} {l : List Nat} (h : l.Pairwise (· < ·)) : (insU x l).Pairwise (· < ·) := by
  induction l with
  | nil => simp [insU]
  | cons a l ih =>
    have hp := List.pairwise_cons.1 h
    unfold insU
    split
    · split
      · exact List.pairwise_cons.2 ⟨fun y hy => by
          rcases List.mem_cons.1 hy with rfl | hy
          · assumption
          · have := hp.1 y hy; omega, h⟩
      · exact h
    · exact List.pairwise_cons.2 ⟨fun y hy => by
        rcases insU_mem.1 hy with rfl | hy
        · omega
        · exact hp.1 y hy, ih hp.2⟩
theorem insU_len (x : Nat) (l : List Nat) : (insU x l).length ≤ l.length + 1 := by
  induction l with
  | nil => simp [insU]
  | cons a l ih =>
    unfold insU
    split
    · split <;> simp
    · simp only [List.length_cons]; omega
/-- the state of the loop that puts x: what is out, and whether x is -/
def PutSt (x : Nat) (l : List Nat) (k : Nat) (o : List Nat) (d : Bool) : Prop := insU x l = o ++ (if d then l.drop k else insU x (l.drop k)) ∧ o.length ≤ k + 1
theorem put_start (x : Nat) (l : List Nat) : PutSt x l 0 [] false := ⟨by simp, by simp⟩
theorem put_done {x k a : Nat} {l o : List Nat} (h : PutSt x l k o true) (ha : l[k]? = some a) : PutSt x l (k + 1) (o ++ [a]) true := by
  obtain ⟨hk, rfl⟩ := List.getElem?_eq_some_iff.1 ha
  obtain ⟨h1, h2⟩ := h
  refine ⟨?_, by simp; omega⟩
  rw [h1]
  simp only [if_true]
  rw [List.drop_eq_getElem_cons hk, List.append_assoc]; rfl
theorem put_skip {x k a : Nat} {l o : List Nat} (h : PutSt x l k o false) (ho : o.length ≤ k) (ha : l[k]? = some a) (hx : ¬ x ≤ a) : PutSt x l (k + 1) (o ++ [a]) false := by
  obtain ⟨hk, rfl⟩ := List.getElem?_eq_some_iff.1 ha
  obtain ⟨h1, h2⟩ := h
  refine ⟨?_, by simp; omega⟩
  rw [h1, if_neg (by decide), if_neg (by decide), List.drop_eq_getElem_cons hk, insU, if_neg hx, List.append_assoc]; rfl
theorem put_new {x k a : Nat} {l o : List Nat} (h : PutSt x l k o false) (ho : o.length ≤ k) (ha : l[k]? = some a) (hx : x < a) : PutSt x l (k + 1) (o ++ [x] ++ [a]) true := by
  obtain ⟨hk, rfl⟩ := List.getElem?_eq_some_iff.1 ha
  obtain ⟨h1, h2⟩ := h
  refine ⟨?_, by simp; omega⟩
  rw [h1, if_neg (by decide), if_pos rfl, List.drop_eq_getElem_cons hk, insU, if_pos (by omega), if_pos hx, List.append_assoc, List.append_assoc]; rfl
theorem put_same {x k a : Nat} {l o : List Nat} (h : PutSt x l k o false) (ho : o.length ≤ k) (ha : l[k]? = some a) (hx : x = a) : PutSt x l (k + 1) (o ++ [a]) true := by
  obtain ⟨hk, rfl⟩ := List.getElem?_eq_some_iff.1 ha
  obtain ⟨h1, h2⟩ := h
  refine ⟨?_, by simp; omega⟩
  rw [h1, if_neg (by decide), if_pos rfl, List.drop_eq_getElem_cons hk, insU, if_pos (by omega), if_neg (by omega), List.append_assoc]; rfl
theorem put_end {x : Nat} {l o : List Nat} {d : Bool} (h : PutSt x l l.length o d) : insU x l = if d then o else o ++ [x] := by
  rw [h.1, List.drop_length]
  cases d <;> simp [insU]
end Go.Proofs.YthchdbjgjnpooaaDoor
/- l00Put: the walk. -/
namespace Go.Proofs.YthchdbjgjnpooaaDoor
open Go.RowKit
set_option maxRecDepth 20000 in
set_option maxHeartbeats 4000000 in
theorem lput_s (u : List Nat) (x : Nat) (v : Value) (w : World) (h : IntsAt w v (intsN u)) (hn : u.length ≤ 1048576) :
    Calls Tryd.prog 39 #[v, .int .i64 x] w fun e w' => RetL icell 1 2 w (intsN (insU x u)) e w' := by
  obtain ⟨i0, hi, hz0, hz1, hz2⟩ := info_parts icell_info
  obtain ⟨A, c, rfl, hA⟩ := h
  simp only [intsN_len]
  have HO0 : Hid (Int64L w.heap.size (w.alloc (.cells #[] 2)) (.slice (some ⟨w.heap.size, 0, none⟩) 0 0) (intsN [])) := Lib.hid (OwnL.of_empty w (Nat.le_refl _))
  go_enter Tryd.func39, Tryd.ntmps39
  go_wp2
  go_loopw [7, 5, 6] (fun i y q wr => ∃ (k : Nat) (o : List Nat) (d : Bool), k ≤ u.length ∧ i = .int .i64 k ∧ q = .bool d ∧ Below w.heap.size w wr ∧ Hid (Int64L w.heap.size wr y (intsN o)) ∧ Hid (PutSt x u k o d ∧ (d = false → o.length ≤ k))) (fun i _ _ _ => u.length - (intOf i).toNat)
  case atStart => exact ⟨0, [], false, by omega, rfl, rfl, (by repeat (first | exact Below.refl _ _ | refine Below.alloc ?_ (by first | omega | (simp; done) | (simp; omega)) _ | apply Below.drew | apply below_drewN | refine Below.setCell ?_ (by first | omega | (simp; done) | (simp; omega)) _ | refine Below.trans ?_ (Below.mono (by assumption) (by first | omega | (simp; done) | (simp; omega))))), HO0, Lib.hid ⟨put_start x u, fun _ => by simp⟩⟩
  case round =>
    clear HO0
    obtain ⟨k, o, d, hk, rfl, rfl, hb, HO, HP⟩ := hrel
    have zr := hb.size
    have hol := HP.out.1.2
    by_cases hlt : k < u.length
    · obtain ⟨a, ha⟩ : ∃ a, u[k]? = some a := ⟨u[k], List.getElem?_eq_getElem hlt⟩
      obtain ⟨g, rfl, hg, hcc⟩ := hA.resolve_left (by intro h0; have := congrArg List.length h0; rw [intsN_len] at this; simp only [List.length_nil] at this; omega)
      have k0 := (hb.cell (p := ⟨g, k, none⟩) hg).trans (hcc k _ (intsN_get ha))
      have hl1 : (intsN o).length + 1 ≤ 16777216 := by rw [intsN_len]; omega
      have hbase : w.heap.size ≤ (wr.alloc (.cells #[.int .i64 (a : Int)] 2)).heap.size := by simp; omega
      obtain ⟨Ax, cx, rfl, _⟩ := OwnL.shape HO.out
      cases d
      · by_cases hxa : x ≤ a
        · have d1 : decide ((x : Int) ≤ (a : Int)) = true := decide_eq_true (by omega)
          have d3 : decide (x ≤ a) = true := decide_eq_true hxa
          by_cases hxl : x < a
          · have d2 : decide ((x : Int) < (a : Int)) = true := decide_eq_true (by omega)
            have d4 : decide (x < a) = true := decide_eq_true hxl
            have HN := Lib.hid (put_new HP.out.1 (HP.out.2 rfl) ha hxl)
            have hbase1 : w.heap.size ≤ (wr.alloc (.cells #[.int .i64 (x : Int)] 2)).heap.size := by simp; omega
            have hl8 : (intsN o ++ [(x : Int)]).length = (intsN o).length + 1 := by simp
            have hl2 : (intsN (o ++ [x])).length + 1 ≤ 16777216 := by rw [intsN_len]; simp; omega
            clear ha hcc hxa hxl
            go_wp2_with (first
              | (at_builtin; refine wpList_app1 icell 1 icell_len _ rfl _ _ _ rfl w.heap.size 2 i0 (.int .i64 0) 8 Tryd.underlying28 hi hz0 hz1 hz2 rfl (by decide) _ (intsN o) rfl (HO.out.alloc _) _ 1 (x : Int) rfl ?_ (by simp [icell, Value.oneCell']) hl1 (by decide) hbase1 ?_; (· intro j u hu; cases j with | zero => (simp [icell] at hu; subst hu; simp) | succ j => simp [icell] at hu); intro v8 w8 how8 hg8'; have hb8 : Below w.heap.size w w8 := own_grown_below (HO.out.alloc (.cells #[.int .i64 (x : Int)] 2)) (Below.alloc hb zr _) hg8' (Nat.le_refl _) hbase1; have HO8 : Hid (Int64L w.heap.size w8 v8 (intsN (o ++ [x]))) := Lib.hid (by rw [intsN_app]; exact how8); have z8 := hb8.size; have k8 := (hb8.cell (p := ⟨g, k, none⟩) hg).trans ((hb.cell (p := ⟨g, k, none⟩) hg).symm.trans k0); obtain ⟨A8, c8, hv8, _⟩ := OwnL.shape how8; rw [hl8] at hv8; subst hv8; clear how8 hg8' HO)
              | (at_builtin; refine wpList_app1 icell 1 icell_len _ rfl _ _ _ rfl w.heap.size 2 i0 (.int .i64 0) 8 Tryd.underlying28 hi hz0 hz1 hz2 rfl (by decide) _ (intsN (o ++ [x])) rfl (HO8.out.alloc _) _ 1 (a : Int) rfl ?_ (by simp [icell, Value.oneCell']) hl2 (by decide) (Nat.le_trans z8 (by simp)) ?_; (· intro j u hu; cases j with | zero => (simp [icell] at hu; subst hu; simp) | succ j => simp [icell] at hu); intro v9 w9 how9 hg9'; have hb9 : Below w.heap.size w w9 := own_grown_below (HO8.out.alloc (.cells #[.int .i64 (a : Int)] 2)) (Below.alloc hb8 z8 _) hg9' (Nat.le_refl _) (Nat.le_trans z8 (by simp)); have HO9 : Hid (Int64L w.heap.size w9 v9 (intsN (o ++ [x] ++ [a]))) := Lib.hid (by rw [intsN_app]; exact how9); clear how9 hg9'))
            go_roundw
            case rel => exact ⟨k + 1, _, true, by omega, by go_num, rfl, hb9, HO9, Lib.hid ⟨HN.out, fun h => by cases h⟩⟩
            case measure => simp [intOf]; omega
          · have d2 : decide ((x : Int) < (a : Int)) = false := decide_eq_false (by omega)
            have d4 : decide (x < a) = false := decide_eq_false hxl
            have HN := Lib.hid (put_same HP.out.1 (HP.out.2 rfl) ha (by omega))
            clear ha hcc hxa hxl
            go_wp2_with (first
              | (at_builtin; refine wpList_app1 icell 1 icell_len _ rfl _ _ _ rfl w.heap.size 2 i0 (.int .i64 0) 8 Tryd.underlying28 hi hz0 hz1 hz2 rfl (by decide) _ (intsN o) rfl (HO.out.alloc _) _ 1 (a : Int) rfl ?_ (by simp [icell, Value.oneCell']) hl1 (by decide) hbase ?_; (· intro j u hu; cases j with | zero => (simp [icell] at hu; subst hu; simp) | succ j => simp [icell] at hu); intro v8 w8 how8 hg8'; have hb8 : Below w.heap.size w w8 := own_grown_below (HO.out.alloc (.cells #[.int .i64 (a : Int)] 2)) (Below.alloc hb zr _) hg8' (Nat.le_refl _) hbase; have HO8 : Hid (Int64L w.heap.size w8 v8 (intsN (o ++ [a]))) := Lib.hid (by rw [intsN_app]; exact how8); clear how8 hg8'))
            go_roundw
            case rel => exact ⟨k + 1, _, true, by omega, by go_num, rfl, hb8, HO8, Lib.hid ⟨HN.out, fun h => by cases h⟩⟩
            case measure => simp [intOf]; omega
        · have d1 : decide ((x : Int) ≤ (a : Int)) = false := decide_eq_false (by omega)
          have d3 : decide (x ≤ a) = false := decide_eq_false hxa
          have HN := Lib.hid (put_skip HP.out.1 (HP.out.2 rfl) ha hxa)
          have hok := HP.out.2 rfl
          clear ha hcc hxa
          go_wp2_with (first
            | (at_builtin; refine wpList_app1 icell 1 icell_len _ rfl _ _ _ rfl w.heap.size 2 i0 (.int .i64 0) 8 Tryd.underlying28 hi hz0 hz1 hz2 rfl (by decide) _ (intsN o) rfl (HO.out.alloc _) _ 1 (a : Int) rfl ?_ (by simp [icell, Value.oneCell']) hl1 (by decide) hbase ?_; (· intro j u hu; cases j with | zero => (simp [icell] at hu; subst hu; simp) | succ j => simp [icell] at hu); intro v8 w8 how8 hg8'; have hb8 : Below w.heap.size w w8 := own_grown_below (HO.out.alloc (.cells #[.int .i64 (a : Int)] 2)) (Below.alloc hb zr _) hg8' (Nat.le_refl _) hbase; have HO8 : Hid (Int64L w.heap.size w8 v8 (intsN (o ++ [a]))) := Lib.hid (by rw [intsN_app]; exact how8); clear how8 hg8'))
          go_roundw
          case rel => exact ⟨k + 1, _, false, by omega, by go_num, rfl, hb8, HO8, Lib.hid ⟨HN.out, fun _ => by simp; omega⟩⟩
          case measure => simp [intOf]; omega
      · have HN := Lib.hid (put_done HP.out.1 ha)
        clear ha hcc
        go_wp2_with (first
          | (at_builtin; refine wpList_app1 icell 1 icell_len _ rfl _ _ _ rfl w.heap.size 2 i0 (.int .i64 0) 8 Tryd.underlying28 hi hz0 hz1 hz2 rfl (by decide) _ (intsN o) rfl (HO.out.alloc _) _ 1 (a : Int) rfl ?_ (by simp [icell, Value.oneCell']) hl1 (by decide) hbase ?_; (· intro j u hu; cases j with | zero => (simp [icell] at hu; subst hu; simp) | succ j => simp [icell] at hu); intro v8 w8 how8 hg8'; have hb8 : Below w.heap.size w w8 := own_grown_below (HO.out.alloc (.cells #[.int .i64 (a : Int)] 2)) (Below.alloc hb zr _) hg8' (Nat.le_refl _) hbase; have HO8 : Hid (Int64L w.heap.size w8 v8 (intsN (o ++ [a]))) := Lib.hid (by rw [intsN_app]; exact how8); clear how8 hg8'))
        go_roundw
        case rel => exact ⟨k + 1, _, true, by omega, by go_num, rfl, hb8, HO8, Lib.hid ⟨HN.out, fun h => by cases h⟩⟩
        case measure => simp [intOf]; omega
    · obtain rfl : k = u.length := by omega
      have HE := Lib.hid (put_end HP.out.1)
      cases d
      · have hl1 : (intsN o).length + 1 ≤ 16777216 := by rw [intsN_len]; omega
        have hbase : w.heap.size ≤ (wr.alloc (.cells #[.int .i64 (x : Int)] 2)).heap.size := by simp; omega
        obtain ⟨Ax, cx, rfl, _⟩ := OwnL.shape HO.out
        go_wp2_with (first
          | (at_builtin; refine wpList_app1 icell 1 icell_len _ rfl _ _ _ rfl w.heap.size 2 i0 (.int .i64 0) 8 Tryd.underlying28 hi hz0 hz1 hz2 rfl (by decide) _ (intsN o) rfl (HO.out.alloc _) _ 1 (x : Int) rfl ?_ (by simp [icell, Value.oneCell']) hl1 (by decide) hbase ?_; (· intro j u hu; cases j with | zero => (simp [icell] at hu; subst hu; simp) | succ j => simp [icell] at hu); intro v8 w8 how8 hg8'; have hb8 : Below w.heap.size w w8 := own_grown_below (HO.out.alloc (.cells #[.int .i64 (x : Int)] 2)) (Below.alloc hb zr _) hg8' (Nat.le_refl _) hbase; have HO8 : Hid (Int64L w.heap.size w8 v8 (intsN (o ++ [x]))) := Lib.hid (by rw [intsN_app]; exact how8); clear how8 hg8'))
        go_ret
        exact ⟨_, rfl, by rw [HE.out]; exact HO8.out, hb8⟩
      · obtain ⟨Ax, cx, rfl, _⟩ := OwnL.shape HO.out
        have HO2 := HO.out
        go_wp2
        go_ret
        exact ⟨_, rfl, by rw [HE.out]; exact HO2, hb⟩
end Go.Proofs.YthchdbjgjnpooaaDoor
