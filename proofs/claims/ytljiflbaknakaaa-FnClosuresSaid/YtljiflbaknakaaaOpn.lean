/- OpenCells, as the program and as the reference have it. -/
import Derived.Test.YtljiflbaknakaaaAt
import Derived.Shelf.Abstract
namespace Go.Proofs.Ytljiflbaknakaaa
open Go.RowKit

def openB (m : MapV) (xs : List Area) (day : Int) (k : Nat) : Bool := decide (0 < m.cost.getD k 0) && !xs.any (closesB k day)
def openTo (m : MapV) (xs : List Area) (day : Int) (k : Nat) : List Int := ((List.range k).filter (openB m xs day)).map fun i : Nat => (i : Int)
theorem openTo_next (m : MapV) (xs : List Area) (day : Int) (k : Nat) : openTo m xs day (k + 1) = if openB m xs day k then openTo m xs day k ++ [(k : Int)] else openTo m xs day k := by
  unfold openTo
  rw [List.range_succ, List.filter_append, List.map_append]
  cases h : openB m xs day k <;> simp [h]
theorem openTo_len (m : MapV) (xs : List Area) (day : Int) (k : Nat) : (openTo m xs day k).length ≤ k := by
  unfold openTo
  rw [List.length_map]
  exact Nat.le_trans (List.length_filter_le _ _) (by simp)
def openCells (m : MapV) (xs : List Area) (day : Int) : Option (List Int) := if areasB m xs && inB day 0 364 then some (openTo m xs day m.cost.length) else none
theorem openCells_len (m : MapV) (xs : List Area) (day : Int) : ((openCells m xs day).getD []).length ≤ 36 := by
  unfold openCells
  split
  · rename_i h
    simp only [Bool.and_eq_true] at h
    obtain ⟨h1, h2, _⟩ := mapB_size (areasB_at h.1).1
    exact Nat.le_trans (openTo_len m xs day m.cost.length) (by omega)
  · simp
theorem mapB_cost {m : MapV} (h : isMapB m = true) (k : Nat) (hk : k < m.cost.length) : 0 ≤ m.cost[k] ∧ m.cost[k] ≤ 9 := by
  unfold isMapB at h
  simp only [Bool.and_eq_true, List.all_eq_true] at h
  exact inB_true (h.2.2 _ (List.getElem_mem hk))
theorem atL_zero (cell day : Int) (xs : List Area) : decide ((atL cell day xs).length = 0) = !xs.any (closesB cell day) := by
  unfold atL
  rw [List.length_map, Bool.eq_iff_iff]
  simp [List.length_eq_zero_iff]

set_option maxRecDepth 100000 in
theorem IndexFunc_Area (g : Nat) (lb : Array Value) (p : Hd Area → Bool) (A : Option Addr) (n c : Nat) (xs : List (Hd Area)) (w : World) (hx : Sees w 0 4 A n (xs.flatMap areaSh.enc)) (hn : n ≤ 140737488355328) (hp : Answers g lb (fun x : Hd Area => .agg (areaSh.enc x).toArray) p xs w) :
    Calls Try.prog 79 #[.slice A n c, .func (.func g) #[] lb] w fun e w' => ∃ r, e = .returned (.int .i64 r) ∧ FirstAt p xs r ∧ Below w.heap.size w w' := by
  have hl := hx.count (enc := areaSh.enc) (by decide) (fun _ => rfl)
  have eg := hp.enters
  go_enter Try.func79, Try.ntmps79
  go_wp2_with fail
  go_loopw [8] (fun v wr => ∃ k : Nat, k ≤ n ∧ v = .int .i64 k ∧ Hid ((xs.take k).any p = false) ∧ Below w.heap.size w wr) (fun v _ => n - (intOf v).toNat)
  case atStart => exact ⟨0, Nat.zero_le _, rfl, by simp [Hid], Below.refl _ _⟩
  case round =>
    obtain ⟨k, hk, rfl, ht, hb⟩ := hrel
    by_cases hlt : k < n
    · obtain ⟨b, off, rfl, hkx, c0, c1, c2, c3⟩ := Sees.elem4 (enc := areaSh.enc) (hx.next hb) (fun _ => rfl) hlt
      go_wp2_with fail
      refine (hp.at' k hkx _ hb).mono ?_
      cases hpk : p xs[k]
      · rintro e w1 ⟨rfl, b1⟩
        go_wp2_with fail
        go_roundw
        case rel => exact ⟨k + 1, by omega, by go_num, any_take_succ hkx ht.out hpk, bel_then hb b1⟩
        case measure => simp [intOf]; omega
      · rintro e w1 ⟨rfl, b1⟩
        go_wp2_with fail
        go_ret
        exact ⟨_, rfl, .inr ⟨k, rfl, hkx, hpk, ht.out⟩, bel_then hb b1⟩
    · go_wp2_with fail
      go_ret
      have h := ht.out
      rw [List.take_of_length_le (by omega)] at h
      exact ⟨_, rfl, .inl ⟨rfl, h⟩, hb⟩

theorem ContainsFunc_Area (g : Nat) (lb : Array Value) (p : Hd Area → Bool) (A : Option Addr) (n c : Nat) (xs : List (Hd Area)) (w : World) (hx : Sees w 0 4 A n (xs.flatMap areaSh.enc)) (hn : n ≤ 140737488355328) (hp : Answers g lb (fun x : Hd Area => .agg (areaSh.enc x).toArray) p xs w) :
    Calls Try.prog 109 #[.slice A n c, .func (.func g) #[] lb] w fun e w' => e = .returned (.bool (xs.any p)) ∧ Below w.heap.size w w' := by
  go_enter Try.func109, Try.ntmps109
  go_wp2_with fail
  refine (IndexFunc_Area g lb p A n c xs w hx hn hp).mono ?_
  rintro e w1 ⟨r, rfl, hr, b1⟩
  have hany := Lib.hid hr.any
  go_wp2_with fail
  all_goals go_ret
  all_goals exact ⟨ret_bool hany.out, b1⟩


theorem isOpenOn1_any (A : Option Addr) (n c : Nat) (a : Area) (cell day : Int) (B C : Nat) (w : World) (hx : Sees w 0 1 A n (ints a.cells)) (hn : n ≤ 1048576) (h1 : w.cell? ⟨B, 0, none⟩ = some (.int .i64 cell)) (hB : B < w.heap.size) (h2 : w.cell? ⟨C, 0, none⟩ = some (.int .i64 day)) (hC : C < w.heap.size) :
    Calls Try.prog 110 #[.agg #[.int .i64 a.id, .slice A n c, .int .i64 a.first, .int .i64 a.last], .pointer (some ⟨B, 0, none⟩), .pointer (some ⟨C, 0, none⟩)] w fun e w' => e = .returned (.bool (closesB cell day a)) ∧ Below w.heap.size w w' := by
  go_enter Try.func110, Try.ntmps110
  go_wp2_with fail
  have K0 : Below w.heap.size w (w.alloc (.cells #[.int .i64 a.id, .slice A n c, .int .i64 a.first, .int .i64 a.last] 62)) := (Below.refl _ _).alloc (Nat.le_refl _) _
  refine (closes_any _ _ _ a cell day _ (hx.next K0) hn).mono ?_
  rintro e w1 ⟨rfl, b1⟩
  go_wp2_with fail
  go_ret
  exact ⟨rfl, bel_then K0 b1⟩
theorem isOpenOn1_answers (rs : List (Hd Area)) (cell day : Int) (B C : Nat) (w : World) (hr : ∀ r ∈ rs, Sees w 0 1 r.A r.n (ints r.x.cells) ∧ r.n ≤ 1048576) (h1 : Blk w B 3 [.int .i64 cell]) (h2 : Blk w C 3 [.int .i64 day]) :
    Answers 110 #[.pointer (some ⟨B, 0, none⟩), .pointer (some ⟨C, 0, none⟩)] (fun x : Hd Area => .agg (areaSh.enc x).toArray) (fun r => closesB cell day r.x) rs w :=
  ⟨enters_of Try.func110 (by kernel_rfl) rfl, fun i hi W hb => isOpenOn1_any rs[i].A rs[i].n rs[i].c rs[i].x cell day B C W ((hr rs[i] (List.getElem_mem hi)).1.next hb) (hr rs[i] (List.getElem_mem hi)).2 ((h1.next hb).cell 0) (h1.next hb).lt ((h2.next hb).cell 0) (h2.next hb).lt⟩

set_option maxHeartbeats 1000000 in
theorem isOpenOn_any (A1 A2 : Option Addr) (n1 n2 c1 c2 : Nat) (m : MapV) (A : Option Addr) (n c : Nat) (xs : List Area) (k : Nat) (day : Int) (w : World) (hm : SeesMap w A1 n1 A2 n2 m) (hx : SeesN areaSh w 0 A n xs) (hn : n ≤ 1048576) (hi : ∀ x ∈ xs, x.cnt ≤ 1048576) (hk : k < m.cost.length) :
    Calls Try.prog 86 #[.agg #[.int .i64 m.width, .int .i64 m.height, .slice A1 n1 c1, .slice A2 n2 c2], .slice A n c, .int .i64 (k : Int), .int .i64 day] w fun e w' => e = .returned (.bool (openB m xs day k)) ∧ Below w.heap.size w w' := by
  have hl2 := hm.f2.icount
  have hmf : ∀ (fn : Fn) (first cap : Array Value) (w : World), (Instr.makeFunc fn first cap).run Try.prog w = .ok (.func fn first cap) w := fun _ _ _ _ => rfl
  obtain ⟨b, off, rfl, hkx, x0⟩ := hm.f2.int (show k < n2 by omega)
  have hblt : b < w.heap.size := World.block_lt_of_cell? w _ x0
  obtain ⟨rs, hrs, ho, hin⟩ := hx
  have HR := Lib.hid (show openB m xs day k = (decide (0 < m.cost[k]) && !rs.any fun r => closesB k day r.x) by
    rw [openB, show m.cost.getD k 0 = m.cost[k] by simp [List.getD, hk], ← hrs, List.any_map]; rfl)
  have K0 : Below w.heap.size w (((w.alloc (.cells #[.int .i64 m.width, .int .i64 m.height, .slice A1 n1 c1, .slice (some ⟨b, off, none⟩) n2 c2] 29)).alloc (.cells #[.int .i64 (k : Int)] 3)).alloc (.cells #[.int .i64 day] 3)) := (((Below.refl w.heap.size w).alloc (Nat.le_refl _) _).alloc (by simp) _).alloc (by simp; omega) _
  have B1 : Blk (((w.alloc (.cells #[.int .i64 m.width, .int .i64 m.height, .slice A1 n1 c1, .slice (some ⟨b, off, none⟩) n2 c2] 29)).alloc (.cells #[.int .i64 (k : Int)] 3)).alloc (.cells #[.int .i64 day] 3)) (w.heap.size + 1) 3 [.int .i64 (k : Int)] := (Blk.at_ (by simp)).alloc _
  have B2 : Blk (((w.alloc (.cells #[.int .i64 m.width, .int .i64 m.height, .slice A1 n1 c1, .slice (some ⟨b, off, none⟩) n2 c2] 29)).alloc (.cells #[.int .i64 (k : Int)] 3)).alloc (.cells #[.int .i64 day] 3)) (w.heap.size + 1 + 1) 3 [.int .i64 day] := Blk.at_ (by simp)
  have x1 := ((bcell K0).1 b (off + k) hblt).trans x0
  by_cases hc : 0 < m.cost[k]
  · have hd : decide (0 < m.cost[k]) = true := decide_eq_true hc
    have hq : ∀ r ∈ rs, Sees (((w.alloc (.cells #[.int .i64 m.width, .int .i64 m.height, .slice A1 n1 c1, .slice (some ⟨b, off, none⟩) n2 c2] 29)).alloc (.cells #[.int .i64 (k : Int)] 3)).alloc (.cells #[.int .i64 day] 3)) 0 1 r.A r.n (ints r.x.cells) ∧ r.n ≤ 1048576 := fun r hr => ⟨(hin r hr).next K0, by
      have h1 := (hin r hr).icount
      have h2 := hi r.x (by rw [← hrs]; exact List.mem_map_of_mem hr)
      unfold Area.cnt at h2
      omega⟩
    have ans := isOpenOn1_answers rs k day _ _ _ hq B1 B2
    have ho' := ho.next K0
    clear hq B1 B2 hin ho hrs
    go_enter Try.func86, Try.ntmps86
    go_wp2_with fail
    refine (ContainsFunc_Area 110 #[.pointer (some ⟨w.heap.size + 1, 0, none⟩), .pointer (some ⟨w.heap.size + 1 + 1, 0, none⟩)] _ _ _ _ rs _ ho' (by omega) ans).mono ?_
    rw [hd, Bool.true_and] at HR
    generalize (rs.any fun r => closesB k day r.x) = z at *
    rintro e w1 ⟨rfl, b1⟩
    go_wp2_with fail
    go_ret
    exact ⟨ret_bool HR.out.symm, bel_then K0 b1⟩
  · have hd : decide (0 < m.cost[k]) = false := decide_eq_false hc
    rw [hd, Bool.false_and] at HR
    clear B1 B2 ho hin hrs
    go_enter Try.func86, Try.ntmps86
    go_wp2_with fail
    go_ret
    exact ⟨ret_bool HR.out.symm, K0⟩

set_option maxHeartbeats 1000000 in
theorem l24Open_any (A1 A2 : Option Addr) (n1 n2 c1 c2 : Nat) (m : MapV) (A : Option Addr) (n c : Nat) (xs : List Area) (k : Nat) (day : Int) (w : World) (hm : SeesMap w A1 n1 A2 n2 m) (hx : SeesN areaSh w 0 A n xs) (hn : n ≤ 1048576) (hi : ∀ x ∈ xs, x.cnt ≤ 1048576) (hk : k < m.cost.length) (h0 : isMapB m = true) :
    Calls Try.prog 75 #[.agg #[.int .i64 m.width, .int .i64 m.height, .slice A1 n1 c1, .slice A2 n2 c2], .slice A n c, .int .i64 (k : Int), .int .i64 day] w fun e w' => e = .returned (.bool (openB m xs day k)) ∧ Below w.heap.size w w' := by
  have hl2 := hm.f2.icount
  obtain ⟨b, off, rfl, hkx, x0⟩ := hm.f2.int (show k < n2 by omega)
  have hblt : b < w.heap.size := World.block_lt_of_cell? w _ x0
  have h09 := mapB_cost h0 k hk
  have HR := Lib.hid (show openB m xs day k = (decide (0 < m.cost[k]) && decide ((atL k day xs).length = 0)) by
    rw [openB, show m.cost.getD k 0 = m.cost[k] by simp [List.getD, hk], atL_zero])
  have hal := atL_len k day xs
  have hl := hx.count
  have K0 : Below w.heap.size w (w.alloc (.cells #[.int .i64 m.width, .int .i64 m.height, .slice A1 n1 c1, .slice (some ⟨b, off, none⟩) n2 c2] 29)) := (Below.refl _ _).alloc (Nat.le_refl _) _
  by_cases hc : 0 < m.cost[k]
  · have hd : (m.cost[k] != 0) = true := by simp; omega
    go_enter Try.func75, Try.ntmps75
    go_wp2_with fail
    refine (l24At_any _ _ _ xs k day _ (hx.next K0) hn hi).mono ?_
    rw [decide_eq_true hc, Bool.true_and] at HR
    generalize atL k day xs = L at *
    rintro e w1 ⟨A3, c3, rfl, o3, b3⟩
    go_wp2_with fail
    go_ret
    exact ⟨ret_bool (by rw [HR.out, Bool.eq_iff_iff]; simp), bel_then K0 b3⟩
  · have hd : (m.cost[k] != 0) = false := by simp; omega
    rw [decide_eq_false hc, Bool.false_and] at HR
    go_enter Try.func75, Try.ntmps75
    go_wp2_with fail
    go_ret
    exact ⟨ret_bool HR.out.symm, K0⟩

set_option maxRecDepth 100000 in
set_option maxHeartbeats 1000000 in
theorem openCells_any (A1 A2 : Option Addr) (n1 n2 c1 c2 : Nat) (m : MapV) (A : Option Addr) (n c : Nat) (xs : List Area) (day : Int) (w : World) (hm : SeesMap w A1 n1 A2 n2 m) (hn' : n1 ≤ 1048576 ∧ n2 ≤ 1048576) (hx : SeesN areaSh w 0 A n xs) (hn : n ≤ 1048576) (hi : ∀ x ∈ xs, x.cnt ≤ 1048576) :
    Calls Try.prog 76 #[.agg #[.int .i64 m.width, .int .i64 m.height, .slice A1 n1 c1, .slice A2 n2 c2], .slice A n c, .int .i64 day] w (GivesL w (openTo m xs day m.cost.length)) := by
  have HL2 := Lib.hid hm.f2.icount
  have hl2a : m.cost.length ≤ n2 := by rw [HL2.out]; exact Nat.le_refl _
  have hl2b : n2 ≤ m.cost.length := by rw [HL2.out]; exact Nat.le_refl _
  go_enter Try.func76, Try.ntmps76
  go_wp2_with fail
  have hown0 := own_empty_at (w := w.alloc (.cells #[.int .i64 m.width, .int .i64 m.height, .slice A1 n1 c1, .slice A2 n2 c2] 29)) (g := w.heap.size + 1) 3 1 (by simp)
  have hb0 : Below w.heap.size w ((w.alloc (.cells #[.int .i64 m.width, .int .i64 m.height, .slice A1 n1 c1, .slice A2 n2 c2] 29)).alloc (.cells #[] 3)) := ((Below.refl _ _).alloc (Nat.le_refl _) _).alloc (by simp) _
  go_loopw [7, 13] (fun v i wr => ∃ (k : Nat) (out : List Int) (A' : Option Addr) (c' : Nat), k ≤ n2 ∧ i = .int .i64 k ∧ v = .slice A' out.length c' ∧ wr.ownsRow (w.heap.size + 1) 3 1 (.slice A' out.length c') out.length (ints out) ∧ out.length ≤ k ∧ Hid (openTo m xs day k = out) ∧ Blk wr w.heap.size 29 [.int .i64 m.width, .int .i64 m.height, .slice A1 n1 c1, .slice A2 n2 c2] ∧ Below w.heap.size w wr) (fun _ i _ => n2 - (intOf i).toNat)
  case atStart => exact ⟨0, [], _, _, Nat.zero_le _, rfl, rfl, hown0, Nat.le_refl _, Lib.hid rfl, (Blk.at_ rfl).alloc _, hb0⟩
  case round =>
    obtain ⟨k, out, A', c', hk, rfl, rfl, hown, hlo, HO, Bm, hb⟩ := hrel
    have cm := Bm.cell
    by_cases hlt : k < n2
    · have hN := openTo_next m xs day k
      rw [HO.out] at hN
      go_wp2_with fail
      refine (isOpenOn_any _ _ _ _ _ _ m _ _ _ xs k day _ (hm.next hb) (hx.next hb) hn hi (by omega)).mono ?_
      cases g : openB m xs day k
      · rintro e w3 ⟨rfl, b3⟩
        rw [g] at hN
        have HN := Lib.hid (hN.trans (if_neg (by decide)))
        clear hN cm
        go_wp2_with fail
        go_roundw
        case rel => exact ⟨k + 1, out, _, _, by omega, by go_num, rfl, own_below hown b3, by omega, HN, Bm.next b3, bel_then hb b3⟩
        case measure => simp [intOf]; omega
      · rintro e w3 ⟨rfl, b3⟩
        rw [g] at hN
        have HN := Lib.hid (hN.trans (if_pos rfl))
        have K4 := bel_then hb b3
        have B3 := Bm.next b3
        have z3 := Bm.lt
        have z4 := b3.size
        clear hN cm
        go_wp2_with (at_builtin; go_loud (refine wpList_pushNew rfl _ _ _ rfl Try.underlying22 info_int rfl (by decide) rfl (own_below hown b3) rfl (by simp) (by rfl) (by rfl) (by omega) (by decide) (by omega) ?_); intro A2 c2 w2 hown2 ho2 hbb2 hat2)
        go_roundw
        case rel => exact ⟨k + 1, out ++ [(k : Int)], A2, c2, by omega, by go_num, by simp, by simpa [ints] using hown2, by simp; omega, HN, B3.only ho2 (own_not hown (by omega)), K4.trans (hbb2.mono (by omega))⟩
        case measure => simp [intOf]; omega
    · obtain rfl : k = n2 := by omega
      have HE := Lib.hid (show openTo m xs day m.cost.length = out by rw [← HO.out, HL2.out])
      go_wp2_with fail
      go_ret
      rw [HE.out]
      exact ⟨_, _, rfl, own_base hown (by omega), hb⟩

set_option maxRecDepth 100000 in
set_option maxHeartbeats 1000000 in
theorem OpenCells_any (A1 A2 : Option Addr) (n1 n2 c1 c2 : Nat) (m : MapV) (A : Option Addr) (n c : Nat) (xs : List Area) (day : Int) (w : World) (hm : SeesMap w A1 n1 A2 n2 m) (hn' : n1 ≤ 1048576 ∧ n2 ≤ 1048576) (hx : SeesN areaSh w 0 A n xs) (hn : n ≤ 1048576) (hi : ∀ x ∈ xs, x.cnt ≤ 1048576) :
    Calls Try.prog 30 #[.agg #[.int .i64 m.width, .int .i64 m.height, .slice A1 n1 c1, .slice A2 n2 c2], .slice A n c, .int .i64 day] w (GivesInts w (openCells m xs day)) := by
  have HL2 := Lib.hid hm.f2.icount
  have hl2a : m.cost.length ≤ n2 := by rw [HL2.out]; exact Nat.le_refl _
  have hl2b : n2 ≤ m.cost.length := by rw [HL2.out]; exact Nat.le_refl _
  go_enter Try.func30, Try.ntmps30
  go_wp2_with fail
  have K0 : Below w.heap.size w (w.alloc (.cells #[.int .i64 m.width, .int .i64 m.height, .slice A1 n1 c1, .slice A2 n2 c2] 29)) := (Below.refl _ _).alloc (Nat.le_refl _) _
  have Bm0 : Blk (w.alloc (.cells #[.int .i64 m.width, .int .i64 m.height, .slice A1 n1 c1, .slice A2 n2 c2] 29)) w.heap.size 29 [.int .i64 m.width, .int .i64 m.height, .slice A1 n1 c1, .slice A2 n2 c2] := Blk.at_ rfl
  refine (AreAreas_any _ _ _ _ _ _ m _ _ _ xs _ (hm.next K0) hn' (hx.next K0) hn hi).mono ?_
  cases g1 : areasB m xs
  · rintro e w1 ⟨rfl, b1⟩
    go_wp2_with fail
    go_ret2
    rw [show openCells m xs day = none by simp [openCells, g1]]
    exact gives_nil (bel_then K0 b1)
  · rintro e w1 ⟨rfl, b1⟩
    have g0 := (areasB_at g1).1
    have K1 := bel_then K0 b1
    have Bm1 := Bm0.next b1
    cases g3 : inB day 0 364
    · go_wp2_with (go_at_call 69; refine (isYearDay_any _ _).mono ?_; rintro e w' ⟨rfl, rfl⟩)
      go_ret2
      rw [show openCells m xs day = none by simp [openCells, g3]]
      exact gives_nil (bel_then K0 b1)
    · have HR := Lib.hid (show openCells m xs day = some (openTo m xs day m.cost.length) by simp [openCells, g1, g3])
      have G0 := Lib.hid g0
      obtain ⟨hp, hcl, -⟩ := mapB_size g0
      have HM := Lib.hid hcl
      obtain ⟨hs1, hs2⟩ := mapB_sides g0
      have hn36 : n2 ≤ 36 := by omega
      clear g0 hcl g1
      have cm := Bm1.cell
      go_wp2_with (go_at_call 69; refine (isYearDay_any _ _).mono ?_; rintro e w' ⟨rfl, rfl⟩)
      clear cm
      refine (openCells_any _ _ _ _ _ _ m _ _ _ xs day _ (hm.next K1) hn' (hx.next K1) hn hi).mono ?_
      rintro e w3 ⟨A3, c3, rfl, o3, b3⟩
      have o4 := own_base o3 K1.size
      have K3 := bel_then K1 b3
      go_wp2_with fail
      go_ret2
      rw [HR.out]
      exact ⟨_, _, rfl, o4, K3⟩

set_option maxRecDepth 100000 in
set_option maxHeartbeats 1000000 in
theorem specOpenCells_any (A1 A2 : Option Addr) (n1 n2 c1 c2 : Nat) (m : MapV) (A : Option Addr) (n c : Nat) (xs : List Area) (day : Int) (w : World) (hm : SeesMap w A1 n1 A2 n2 m) (hn' : n1 ≤ 1048576 ∧ n2 ≤ 1048576) (hx : SeesN areaSh w 0 A n xs) (hn : n ≤ 1048576) (hi : ∀ x ∈ xs, x.cnt ≤ 1048576) :
    Calls Try.prog 29 #[.agg #[.int .i64 m.width, .int .i64 m.height, .slice A1 n1 c1, .slice A2 n2 c2], .slice A n c, .int .i64 day] w (GivesInts w (openCells m xs day)) := by
  have HL2 := Lib.hid hm.f2.icount
  have hl2a : m.cost.length ≤ n2 := by rw [HL2.out]; exact Nat.le_refl _
  have hl2b : n2 ≤ m.cost.length := by rw [HL2.out]; exact Nat.le_refl _
  go_enter Try.func29, Try.ntmps29
  go_wp2_with fail
  have K0 : Below w.heap.size w ((w.alloc (.cells #[.int .i64 m.width, .int .i64 m.height, .slice A1 n1 c1, .slice A2 n2 c2] 29)).alloc (.cells #[] 3)) := ((Below.refl _ _).alloc (Nat.le_refl _) _).alloc (by simp) _
  have Bm0 : Blk ((w.alloc (.cells #[.int .i64 m.width, .int .i64 m.height, .slice A1 n1 c1, .slice A2 n2 c2] 29)).alloc (.cells #[] 3)) w.heap.size 29 [.int .i64 m.width, .int .i64 m.height, .slice A1 n1 c1, .slice A2 n2 c2] := (Blk.at_ rfl).alloc _
  have hownE := own_empty_at (w := w.alloc (.cells #[.int .i64 m.width, .int .i64 m.height, .slice A1 n1 c1, .slice A2 n2 c2] 29)) (g := w.heap.size + 1) 3 1 (by simp)
  refine (l24Good_any _ _ _ _ _ _ m _ _ _ xs _ (hm.next K0) hn' (hx.next K0) hn hi).mono ?_
  cases g1 : areasB m xs
  · rintro e w1 ⟨rfl, b1⟩
    go_wp2_with fail
    go_ret2
    rw [show openCells m xs day = none by simp [openCells, g1]]
    exact ⟨_, 0, rfl, own_base (own_below hownE b1) (show w.heap.size ≤ w.heap.size + 1 by omega), bel_then K0 b1⟩
  · rintro e w1 ⟨rfl, b1⟩
    have g0 := (areasB_at g1).1
    have K1 := bel_then K0 b1
    have Bm1 := Bm0.next b1
    cases g3 : inB day 0 364
    · go_wp2_with (go_at_call 71; refine (l24Day_any _ _).mono ?_; rintro e w' ⟨rfl, rfl⟩)
      go_ret2
      rw [show openCells m xs day = none by simp [openCells, g3]]
      exact ⟨_, 0, rfl, own_base (own_below hownE b1) (show w.heap.size ≤ w.heap.size + 1 by omega), bel_then K0 b1⟩
    · have HR := Lib.hid (show openCells m xs day = some (openTo m xs day m.cost.length) by simp [openCells, g1, g3])
      have G0 := Lib.hid g0
      obtain ⟨hp, hcl, -⟩ := mapB_size g0
      have HM := Lib.hid hcl
      obtain ⟨hs1, hs2⟩ := mapB_sides g0
      have hn36 : n2 ≤ 36 := by omega
      clear g0 hcl g1
      have cm := Bm1.cell
      go_wp2_with (go_at_call 71; refine (l24Day_any _ _).mono ?_; rintro e w' ⟨rfl, rfl⟩)
      clear cm
      have hown0 := own_below hownE b1
      have hb0 := K1
      go_loopw [8, 9] (fun v i wr => ∃ (k : Nat) (out : List Int) (A' : Option Addr) (c' : Nat), k ≤ n2 ∧ i = .int .i64 k ∧ v = .slice A' out.length c' ∧ wr.ownsRow (w.heap.size + 1) 3 1 (.slice A' out.length c') out.length (ints out) ∧ out.length ≤ k ∧ Hid (openTo m xs day k = out) ∧ Blk wr w.heap.size 29 [.int .i64 m.width, .int .i64 m.height, .slice A1 n1 c1, .slice A2 n2 c2] ∧ Below w.heap.size w wr) (fun _ i _ => n2 - (intOf i).toNat)
      case atStart => exact ⟨0, [], _, _, Nat.zero_le _, rfl, rfl, hown0, Nat.le_refl _, Lib.hid rfl, Bm1, hb0⟩
      case round =>
        obtain ⟨k, out, A', c', hk, rfl, rfl, hown, hlo, HO, Bm, hb⟩ := hrel
        have cm := Bm.cell
        have hmul : m.width * m.height = (n2 : Int) := by have := HM.out; omega
        have hwr : IntKind.i64.wrap (m.width * m.height) = (n2 : Int) := by rw [hmul]; exact IntWalk.i64_in _ (by omega)
        by_cases hlt : k < n2
        · have hN := openTo_next m xs day k
          rw [HO.out] at hN
          go_wp2_with fail
          refine (l24Open_any _ _ _ _ _ _ m _ _ _ xs k day _ (hm.next hb) (hx.next hb) hn hi (by omega) G0.out).mono ?_
          cases g : openB m xs day k
          · rintro e w3 ⟨rfl, b3⟩
            rw [g] at hN
            have HN := Lib.hid (hN.trans (if_neg (by decide)))
            clear hN cm
            go_wp2_with fail
            go_roundw
            case rel => exact ⟨k + 1, out, _, _, by omega, by go_num, rfl, own_below hown b3, by omega, HN, Bm.next b3, bel_then hb b3⟩
            case measure => simp [intOf]; omega
          · rintro e w3 ⟨rfl, b3⟩
            rw [g] at hN
            have HN := Lib.hid (hN.trans (if_pos rfl))
            have K4 := bel_then hb b3
            have B3 := Bm.next b3
            have z3 := Bm.lt
            have z4 := b3.size
            clear hN cm
            go_wp2_with (at_builtin; go_loud (refine wpList_pushNew rfl _ _ _ rfl Try.underlying22 info_int rfl (by decide) rfl (own_below hown b3) rfl (by simp) (by rfl) (by rfl) (by omega) (by decide) (by omega) ?_); intro A2 c2 w2 hown2 ho2 hbb2 hat2)
            go_roundw
            case rel => exact ⟨k + 1, out ++ [(k : Int)], A2, c2, by omega, by go_num, by simp, by simpa [ints] using hown2, by simp; omega, HN, B3.only ho2 (own_not hown (by omega)), K4.trans (hbb2.mono (by omega))⟩
            case measure => simp [intOf]; omega
        · obtain rfl : k = n2 := by omega
          have HE := Lib.hid (show openTo m xs day m.cost.length = out by rw [← HO.out, HL2.out])
          go_wp2_with fail
          go_ret2
          rw [HR.out, HE.out]
          exact ⟨_, _, rfl, own_base hown (by omega), hb⟩

end Go.Proofs.Ytljiflbaknakaaa
