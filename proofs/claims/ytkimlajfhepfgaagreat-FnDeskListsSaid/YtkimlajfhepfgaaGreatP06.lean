/- Joined texts of this proof: CheckF. -/
import Derived.Test.YtkimlajfhepfgaaGreatP05
namespace Go.Proofs.YtkimlajfhepfgaaGreat
open Go.RowKit


theorem MineCW.next {w w' : World} {S : Nat → Prop} {col : Nat → Nat} {h : DeskH} {d : DeskV} (m : MineCW w S col h d) (hb : Below w.heap.size w w') : MineCW w' S col h d :=
 ⟨m.f0.next hb, m.f1.next hb, m.f2.next hb, m.f3.next hb, m.f4.next hb⟩
theorem MineCW.only {w w' : World} {S U : Nat → Prop} {col : Nat → Nat} {h : DeskH} {d : DeskV} (m : MineCW w S col h d) (ho : Only U w w') (hS : ∀ b, S b → U b → False) : MineCW w' S col h d :=
 ⟨m.f0.only ho fun b h1 => hS b h1.1, m.f1.only ho fun b h1 => hS b h1.1, m.f2.only ho fun b h1 => hS b h1.1, m.f3.only ho fun b h1 => hS b h1.1, m.f4.only ho fun b h1 => hS b h1.1⟩

/-- What one check of a desk in block g leaves. -/
def Checked (g : Nat) (h : DeskH) (d : DeskV) (S : Nat → Prop) (k : Nat) (w : World) (e : Ending) (w' : World) : Prop :=
 ∃ (h' : DeskH) (c : Card) (q : List Card), d.queue = c :: q ∧ e = .returned (.bool (putsB d c)) ∧ Blk w' g 28 [.slice h'.A0 h'.n0 h'.c0, .slice h'.A1 h'.n1 h'.c1, .slice h'.A2 h'.n2 h'.c2, .slice h'.A3 h'.n3 h'.c3, .slice h'.A4 h'.n4 h'.c4] ∧ MineW w' (fun b => S b ∨ (w.heap.size ≤ b ∧ b < w'.heap.size)) h' (checkD d) ∧ (h'.n2 = k ∧ h'.n2 ≤ h'.c2 ∧ h'.n0 = h.n0 ∧ h'.n1 = h.n1 ∧ h'.n3 ≤ h.n3 + 1 ∧ h'.n4 ≤ h.n4 + 1) ∧ Only (fun b => S b ∨ b = g) w w'

set_option maxRecDepth 100000 in
set_option maxHeartbeats 4000000 in
theorem checkFirst_any (g : Nat) (h : DeskH) (d : DeskV) (S : Nat → Prop) (k : Nat) (w : World) (hB : Blk w g 28 [.slice h.A0 h.n0 h.c0, .slice h.A1 h.n1 h.c1, .slice h.A2 h.n2 h.c2, .slice h.A3 h.n3 h.c3, .slice h.A4 h.n4 h.c4]) (hm : MineW w S h d) (hS : ∀ b, S b → b < w.heap.size) (hg : ¬ S g) (hf : DeskFit 1000000 h d) (hk : h.n2 = k + 1) (hc2 : h.n2 ≤ h.c2) (hfin : ∀ c ∈ d.queue, (0 ≤ c.start ∧ c.start ≤ 36000) ∧ -1 ≤ c.finish ∧ c.finish ≤ 36000) :
  Calls Tryz.prog 55 #[.pointer (some ⟨g, 0, none⟩)] w (Checked g h d S k w) := by
 obtain ⟨A0, n0, e0, A1, n1, e1, A2, n2, e2, A3, n3, e3, A4, n4, e4⟩ := h
 obtain ⟨col, m⟩ := hm
 obtain ⟨r, q, gq, off, hq, hA2, ⟨c0, c1, c2, c3⟩, mr, m2⟩ := m.first hk
 dsimp only at hB hk hc2 hA2
 subst hA2
 subst hk
 have hgl := hB.lt
 have hql := World.block_lt_of_cell? w _ c0
 have cg := hB.cell
 have fg := hB.frozen
 have HQ := Lib.hid hq
 have HD := Lib.hid (show checkD d = if putsB d r.x then { d with queue := q, done := d.done ++ [rowOf d r.x] } else { d with queue := q, trouble := d.trouble ++ [r.x] } by unfold checkD; rw [hq])
 clear hq
 by_cases hcap : e2 = 1
 ·subst hcap
  obtain rfl : k = 0 := by omega
  have hcap3 : (1 : Int) ≤ ((0 : Nat) : Int) + 1 := by omega
  obtain rfl : q = [] := List.length_eq_zero_iff.1 m2.count
  replace m2 : MineO cardSh w (fun b => Hue S col 2 b ∧ ¬ OwnB r.A b) 31 109 (some ⟨gq, off, none⟩) 0 ([] : List Card) := MineO.empty _ _ _ _ _
  go_enter Tryz.func55, Tryz.ntmps55
  go_wp2_with fail
  have ho : Only (fun b => b = g) w (w.setCell ⟨g, 2, none⟩ (.slice (some ⟨gq, off, none⟩) 0 0)) := (Only.refl (fun b => b = g) w).setCell (p := ⟨g, 2, none⟩) rfl _
  have U : Below (w.setCell ⟨g, 2, none⟩ (.slice (some ⟨gq, off, none⟩) 0 0)).heap.size (w.setCell ⟨g, 2, none⟩ (.slice (some ⟨gq, off, none⟩) 0 0)) ((w.setCell ⟨g, 2, none⟩ (.slice (some ⟨gq, off, none⟩) 0 0)).alloc (.cells #[.int .i64 r.x.number, .int .i64 r.x.start, .int .i64 r.x.finish, .slice r.A r.n r.c] 31)) := (Below.refl _ _).alloc (Nat.le_refl _) _
  have hsz : (w.setCell ⟨g, 2, none⟩ (.slice (some ⟨gq, off, none⟩) 0 0)).heap.size = w.heap.size := by simp [World.setCell]
  have Bg : Blk ((w.setCell ⟨g, 2, none⟩ (.slice (some ⟨gq, off, none⟩) 0 0)).alloc (.cells #[.int .i64 r.x.number, .int .i64 r.x.start, .int .i64 r.x.finish, .slice r.A r.n r.c] 31)) g 28 [.slice A0 n0 e0, .slice A1 n1 e1, .slice (some ⟨gq, off, none⟩) 0 0, .slice A3 n3 e3, .slice A4 n4 e4] := (show Blk (w.setCell ⟨g, 2, none⟩ (.slice (some ⟨gq, off, none⟩) 0 0)) g 28 [.slice A0 n0 e0, .slice A1 n1 e1, .slice (some ⟨gq, off, none⟩) 0 0, .slice A3 n3 e3, .slice A4 n4 e4] from hB.set_ 2 (.slice (some ⟨gq, off, none⟩) 0 0)).alloc _
  have Bc : Blk ((w.setCell ⟨g, 2, none⟩ (.slice (some ⟨gq, off, none⟩) 0 0)).alloc (.cells #[.int .i64 r.x.number, .int .i64 r.x.start, .int .i64 r.x.finish, .slice r.A r.n r.c] 31)) w.heap.size 31 [.int .i64 r.x.number, .int .i64 r.x.start, .int .i64 r.x.finish, .slice r.A r.n r.c] := Blk.at_ (by simp [World.setCell])
  have hSg : ∀ b, S b → b = g → False := fun b h1 h2 => hg (h2 ▸ h1)
  have mr := (mr.only ho (fun b h1 h2 => hSg b h1.1 h2)).next U
  have m2 := (m2.only ho (fun b h1 h2 => hSg b h1.1.1 h2)).next U
  have mc := (m.only ho hSg).next U
  have x1 := ((m.f1.only ho (fun b h1 h2 => hSg b h1.1 h2)).next U).sees
  have x3 := ((m.f3.only ho (fun b h1 h2 => hSg b h1.1 h2)).next U).sees
  have hn1 : n1 ≤ 1000000 := hf.n1
  have hn3 : n3 ≤ 1000000 := hf.n3
  have hn0 : n0 ≤ 1000000 := hf.n0
  have hn4 : n4 ≤ 1000000 := hf.n4
  clear hsz
  generalize hcb0 : w.heap.size = cb at *
  have HCB := Lib.hid hcb0
  clear hcb0
  generalize ((w.setCell ⟨g, 2, none⟩ (.slice (some ⟨gq, off, none⟩) 0 0)).alloc (.cells #[.int .i64 r.x.number, .int .i64 r.x.start, .int .i64 r.x.finish, .slice r.A r.n r.c] 31)) = w3 at *
  have b := (Quiet.one w3).below w3.heap.size
  have Kq := Below.refl w3.heap.size w3
  replace Bg := Bg.next b
  replace Bc := Bc.next b
  replace mr := mr.next b
  replace m2 := m2.next b
  replace mc := mc.next b
  replace x1 := x1.next b
  replace x3 := x3.next b
  replace Kq := bel_then Kq b
  clear b
  have pg := Bg.cell
  have pc := Bc.cell
  cases hkn : hasI d.known r.x.number
  ·have HK := Lib.hid hkn
   clear hkn
   refine wp_region_held_drew (S := fun w' => w'.cell? ⟨g, 1, none⟩ = some (.slice A1 n1 e1) ∧ w'.cell? ⟨g, 3, none⟩ = some (.slice A3 n3 e3) ∧ w'.cell? ⟨cb, 0, none⟩ = some (.int .i64 r.x.number)) (by kernel_rfl) (by (try dsimp only); exact ⟨pg 1, pg 3, pc 0⟩) (fun hH => ?_)
   refine wT (i := 0) (v := ?_) rfl (by kernel_rfl) (by kernel_rfl) (by kernel_rfl) (fun _ _ _ h => h) (Or.inl ⟨by rfl, ?_⟩) (by assumption) ?_
   rotate_left 1
   ·(intro w hSw; (try dsimp only at hSw); go_simp; try with_reducible rfl)
   simp only [Act.put, pX]
   refine wT (i := 1) (v := ?_) rfl (by kernel_rfl) (by kernel_rfl) (by kernel_rfl) (fun _ _ _ h => h) (Or.inl ⟨by rfl, ?_⟩) (by assumption) ?_
   rotate_left 1
   ·(intro w hSw; (try dsimp only at hSw); go_simp; try with_reducible rfl)
   simp only [Act.put, pX]
   refine wT (i := 2) (v := ?_) rfl (by kernel_rfl) (by kernel_rfl) (by kernel_rfl) (fun _ _ _ h => h) (Or.inl ⟨by rfl, ?_⟩) (by assumption) ?_
   rotate_left 1
   ·(intro w hSw; (try dsimp only at hSw); go_simp; try with_reducible rfl)
   simp only [Act.put, pX]
   refine wT (i := 3) (v := ?_) rfl (by kernel_rfl) (by kernel_rfl) (by kernel_rfl) (fun _ _ _ h => h) (Or.inl ⟨by rfl, ?_⟩) (by assumption) ?_
   rotate_left 1
   ·(intro w hSw; (try dsimp only at hSw); go_simp; try with_reducible rfl)
   simp only [Act.put, pX]
   refine wT (i := 4) (v := ?_) rfl (by kernel_rfl) (by kernel_rfl) (by kernel_rfl) (fun _ _ _ h => h) (Or.inl ⟨by rfl, ?_⟩) (by assumption) ?_
   rotate_left 1
   ·(intro w hSw; (try dsimp only at hSw); go_simp; try with_reducible rfl)
   simp only [Act.put, pX]
   refine wT (i := 5) (v := ?_) rfl (by kernel_rfl) (by kernel_rfl) (by kernel_rfl) (fun _ _ _ h => h) (Or.inl ⟨by rfl, ?_⟩) (by assumption) ?_
   rotate_left 1
   ·(intro w hSw; (try dsimp only at hSw); go_simp; try with_reducible rfl)
   simp only [Act.put, pX]
   refine wR (rs := [6]) (by kernel_rfl) (by simp) ?_
   refine aC rfl (fun K hK => ?_) aN
   go_simp
   refine (Contains_has A1 n1 e1 d.known r.x.number _ x1 (by omega)).mono ?_
   rw [HK.out]
   rintro e w4 ⟨rfl, qq⟩
   have b := qq.below w3.drew.heap.size
   replace Bg := Bg.next b
   replace Bc := Bc.next b
   replace mr := mr.next b
   replace m2 := m2.next b
   replace mc := mc.next b
   replace x1 := x1.next b
   replace x3 := x3.next b
   replace Kq := bel_then Kq b
   clear b qq pg pc
   have pg := Bg.cell
   have pc := Bc.cell
   go_wp2_with fail
   refine hK.out _ _ (by (try dsimp only); exact ⟨pg 1, pg 3, pc 0⟩) (fun hH => ?_)
   clear hK K
   refine wT (i := 7) (v := ?_) rfl (by kernel_rfl) (by kernel_rfl) (by kernel_rfl) (fun _ _ _ h => h) (Or.inl ⟨by rfl, ?_⟩) (by assumption) ?_
   rotate_left 1
   ·(intro w hSw; (try dsimp only at hSw); go_simp; try with_reducible rfl)
   simp only [Act.put, pX]
   refine wT (i := 8) (v := ?_) rfl (by kernel_rfl) (by kernel_rfl) (by kernel_rfl) (fun _ _ _ h => h) (Or.inl ⟨by rfl, ?_⟩) (by assumption) ?_
   rotate_left 1
   ·(intro w hSw; (try dsimp only at hSw); go_simp; try with_reducible rfl)
   simp only [Act.put, pX]
   refine wT (i := 9) (v := undef) rfl (by kernel_rfl) (by kernel_rfl) (by kernel_rfl) (fun _ _ _ h => h) (Or.inr ⟨by rfl, rfl⟩) (by assumption) ?_
   simp only [Act.put, pX]
   refine wT (i := 10) (v := undef) rfl (by kernel_rfl) (by kernel_rfl) (by kernel_rfl) (fun _ _ _ h => h) (Or.inr ⟨by rfl, rfl⟩) (by assumption) ?_
   simp only [Act.put, pX]
   refine wT (i := 11) (v := undef) rfl (by kernel_rfl) (by kernel_rfl) (by kernel_rfl) (fun _ _ _ h => h) (Or.inr ⟨by rfl, rfl⟩) (by assumption) ?_
   simp only [Act.put, pX]
   refine wT (i := 12) (v := undef) rfl (by kernel_rfl) (by kernel_rfl) (by kernel_rfl) (fun _ _ _ h => h) (Or.inr ⟨by rfl, rfl⟩) (by assumption) ?_
   simp only [Act.put, pX]
   refine wT (i := 13) (v := undef) rfl (by kernel_rfl) (by kernel_rfl) (by kernel_rfl) (fun _ _ _ h => h) (Or.inr ⟨by rfl, rfl⟩) (by assumption) ?_
   simp only [Act.put, pX]
   refine wT (i := 14) (v := undef) rfl (by kernel_rfl) (by kernel_rfl) (by kernel_rfl) (fun _ _ _ h => h) (Or.inr ⟨by rfl, rfl⟩) (by assumption) ?_
   simp only [Act.put, pX]
   refine wT (i := 15) (v := undef) rfl (by kernel_rfl) (by kernel_rfl) (by kernel_rfl) (fun _ _ _ h => h) (Or.inr ⟨by rfl, rfl⟩) (by assumption) ?_
   simp only [Act.put, pX]
   refine wT (i := 16) (v := ?_) rfl (by kernel_rfl) (by kernel_rfl) (by kernel_rfl) (fun _ _ _ h => h) (Or.inl ⟨by rfl, ?_⟩) (by assumption) ?_
   rotate_left 1
   ·(intro w hSw; (try dsimp only at hSw); go_simp; try with_reducible rfl)
   simp only [Act.put, pX]
   refine wD (by kernel_rfl) ?_ _
   go_wp2_with fail
   have U4 : Below w4.heap.size w4 (w4.alloc (.cells #[.int .i64 r.x.number, .int .i64 r.x.start, .int .i64 r.x.finish, .slice r.A r.n r.c] 31)).drew := bel_then ((Below.refl _ _).alloc (Nat.le_refl _) _) ((Quiet.one _).below _)
   have BA : Blk (w4.alloc (.cells #[.int .i64 r.x.number, .int .i64 r.x.start, .int .i64 r.x.finish, .slice r.A r.n r.c] 31)).drew w4.heap.size 31 [.int .i64 r.x.number, .int .i64 r.x.start, .int .i64 r.x.finish, .slice r.A r.n r.c] := (show Blk (w4.alloc (.cells #[.int .i64 r.x.number, .int .i64 r.x.start, .int .i64 r.x.finish, .slice r.A r.n r.c] 31)) w4.heap.size 31 [.int .i64 r.x.number, .int .i64 r.x.start, .int .i64 r.x.finish, .slice r.A r.n r.c] from Blk.at_ rfl).next ((Quiet.one _).below _)
   have pg := Bg.next ((Quiet.one w4).below _) |>.cell
   have pc := Bc.next ((Quiet.one w4).below _) |>.cell
   replace Bg := Bg.next U4
   replace Bc := Bc.next U4
   replace mr := mr.next U4
   replace m2 := m2.next U4
   replace mc := mc.next U4
   replace x1 := x1.next U4
   replace x3 := x3.next U4
   replace Kq := bel_then Kq U4
   have pgA := Bg.cell
   have pcA := Bc.cell
   obtain ⟨rs, hrs, M4⟩ := mc.f4
   dsimp only at M4 hrs
   refine wp_region_held_drew (S := fun w' => w'.cell? ⟨cb, 0, none⟩ = some (.int .i64 r.x.number) ∧ w'.cell? ⟨cb, 1, none⟩ = some (.int .i64 r.x.start) ∧ w'.cell? ⟨cb, 2, none⟩ = some (.int .i64 r.x.finish) ∧ w'.cell? ⟨cb, 3, none⟩ = some (.slice r.A r.n r.c)) (by kernel_rfl) (by (try dsimp only); first | exact ⟨pc 0, pc 1, pc 2, pc 3⟩ | exact ⟨pcA 0, pcA 1, pcA 2, pcA 3⟩ | exact ⟨pc6 0, pc6 1, pc6 2, pc6 3⟩) (fun hH => ?_)
   refine wT (i := 0) (v := ?_) rfl (by kernel_rfl) (by kernel_rfl) (by kernel_rfl) (fun _ _ _ h => h) (Or.inl ⟨by rfl, ?_⟩) (by assumption) ?_
   rotate_left 1
   ·(intro w hSw; (try dsimp only at hSw); go_simp; try with_reducible rfl)
   simp only [Act.put, pX]
   refine wT (i := 1) (v := ?_) rfl (by kernel_rfl) (by kernel_rfl) (by kernel_rfl) (fun _ _ _ h => h) (Or.inl ⟨by rfl, ?_⟩) (by assumption) ?_
   rotate_left 1
   ·(intro w hSw; (try dsimp only at hSw); go_simp; try with_reducible rfl)
   simp only [Act.put, pX]
   refine wT (i := 2) (v := ?_) rfl (by kernel_rfl) (by kernel_rfl) (by kernel_rfl) (fun _ _ _ h => h) (Or.inl ⟨by rfl, ?_⟩) (by assumption) ?_
   rotate_left 1
   ·(intro w hSw; (try dsimp only at hSw); go_simp; try with_reducible rfl)
   simp only [Act.put, pX]
   refine wT (i := 3) (v := ?_) rfl (by kernel_rfl) (by kernel_rfl) (by kernel_rfl) (fun _ _ _ h => h) (Or.inl ⟨by rfl, ?_⟩) (by assumption) ?_
   rotate_left 1
   ·(intro w hSw; (try dsimp only at hSw); go_simp; try with_reducible rfl)
   simp only [Act.put, pX]
   refine wT (i := 5) (v := ?_) rfl (by kernel_rfl) (by kernel_rfl) (by kernel_rfl) (fun _ _ _ h => h) (Or.inl ⟨by rfl, ?_⟩) (by assumption) ?_
   rotate_left 1
   ·(intro w hSw; (try dsimp only at hSw); go_simp; try with_reducible rfl)
   simp only [Act.put, pX]
   refine wR (rs := [4, 6]) (by kernel_rfl) (by simp) ?_
   refine aC rfl (fun K hK => ?_) ?_
   ·go_simp
    refine hK.out _ _ (by (try dsimp only); first | exact ⟨pc 0, pc 1, pc 2, pc 3⟩ | exact ⟨pcA 0, pcA 1, pcA 2, pcA 3⟩ | exact ⟨pc6 0, pc6 1, pc6 2, pc6 3⟩) (fun hH => ?_)
    clear hK K
    try simp only [Act.put, pX]
    refine wR (rs := [6]) (by kernel_rfl) (by simp) ?_
    refine aC rfl (fun K hK => ?_) aN
    go_simp
    refine hK.out _ _ (by (try dsimp only); first | exact ⟨pc 0, pc 1, pc 2, pc 3⟩ | exact ⟨pcA 0, pcA 1, pcA 2, pcA 3⟩ | exact ⟨pc6 0, pc6 1, pc6 2, pc6 3⟩) (fun hH => ?_)
    clear hK K
    try simp only [Act.put, pX]
    refine wR (rs := [7]) (by kernel_rfl) (by simp) ?_
    refine aC rfl (fun K hK => ?_) aN
    refine step_cat rfl _ _ _ (by rfl) Tryz.underlying25 info_impl_Card rfl (by decide) (by rfl) M4.outer.own (by rfl) (m := 1) (BA.sees (s := 4) (Nat.zero_le _) rfl) (by rfl) (by omega) (by omega) (by decide) (Nat.zero_le _) ?_
    intro A6 c6 w6 o6 h6 b6 q6
    have hA4 : ∀ b, OwnB A4 b → Hue S col 4 b := M4.outer.top
    have Bg6 := Bg.only h6 (fun h => hg (hA4 g h).1)
    have pg6 := Bg6.cell
    have fg6 := Bg6.frozen
    have Bc6 := Bc.only h6 (fun h => Nat.lt_irrefl _ (hS cb (hA4 cb h).1))
    have pc6 := Bc6.cell
    have Bg7 := Bg6.set_ 4 (.slice A6 (n4 + 1) c6)
    have pc7 := (Bc6.far (p := ⟨g, 4, none⟩) (fun (e : cb = g) => by omega) (.slice A6 (n4 + 1) c6)).cell
    refine hK.out _ _ (by (try dsimp only); first | exact ⟨pc 0, pc 1, pc 2, pc 3⟩ | exact ⟨pcA 0, pcA 1, pcA 2, pcA 3⟩ | exact ⟨pc6 0, pc6 1, pc6 2, pc6 3⟩) (fun hH => ?_)
    clear hK K
    try simp only [Act.put, pX]
    refine wT (i := 8) (v := ?_) rfl (by kernel_rfl) (by kernel_rfl) (by kernel_rfl) (fun _ _ _ h => h) (Or.inl ⟨by rfl, ?_⟩) (by assumption) ?_
    rotate_left 1
    ·(intro w hSw; (try dsimp only at hSw); go_simp; try with_reducible rfl)
    simp only [Act.put, pX]
    refine wT (i := 9) (v := ?_) rfl (by kernel_rfl) (by kernel_rfl) (by kernel_rfl) (fun _ _ _ h => h) (Or.inl ⟨by rfl, ?_⟩) (by assumption) ?_
    rotate_left 1
    ·(intro w hSw; (try dsimp only at hSw); go_simp; try with_reducible rfl)
    simp only [Act.put, pX]
    refine wR (rs := [10]) (by kernel_rfl) (by simp) ?_
    refine aC rfl (fun K hK => ?_) aN
    go_simp
    refine hK.out _ _ (by (try dsimp only); exact ⟨pc7 0, pc7 1, pc7 2, pc7 3⟩) (fun hH => ?_)
    clear hK K
    try simp only [Act.put, pX]
    refine wD (by kernel_rfl) ?_ _
    go_wp2_with fail
    go_ret
    have hp : putsB d r.x = false := by unfold putsB; rw [HK.out]; rfl
    have hcb := Bc.lt
    have hgw := Bg.lt
    have hSw : ∀ b, S b → b < ((w4.alloc (.cells #[.int .i64 r.x.number, .int .i64 r.x.start, .int .i64 r.x.finish, .slice r.A r.n r.c] 31)).drew).heap.size := fun b hb => Nat.lt_trans (hS b hb) hcb
    have hst : Only (fun b => b = g) w6 (w6.setCell ⟨g, 4, none⟩ (.slice A6 (n4 + 1) c6)) := (Only.refl (fun b => b = g) w6).setCell (p := ⟨g, 4, none⟩) rfl _
    have hz7 : (w6.setCell ⟨g, 4, none⟩ (.slice A6 (n4 + 1) c6)).heap.size = w6.heap.size := by simp [World.setCell]
    have T := MineCW.trouble (A2 := some ⟨gq, off, none⟩) (n2 := 0) (c2 := 0) mc hSw hrs M4.inners M4.apart mr m2 hA4 h6 (fun b hb => (q6 b hb).imp id fun h => ⟨h, (own_top o6 hb).2⟩) (by rw [List.flatMap_append]; exact o6)
    refine ⟨⟨A0, n0, e0, A1, n1, e1, some ⟨gq, off, none⟩, 0, 0, A3, n3, e3, A6, n4 + 1, c6⟩, r.x, [], HQ.out, ret_bool hp.symm, Bg7, ?_, ⟨rfl, Nat.le_refl _, rfl, rfl, Nat.le_succ _, Nat.le_refl _⟩, ?_⟩
    ·rw [HD.out, hp]
     exact (T.only hst (fun b h1 (h2 : b = g) => by
      rcases h1 with h1 | h1
      ·exact hSg b h1 h2
      ·exact absurd (h2 ▸ h1.1) (Nat.not_le_of_lt hgw))).wide fun b h1 => h1.imp id fun h2 => ⟨Nat.le_trans (Nat.le_of_eq HCB.out) (Nat.le_trans (Nat.le_of_lt hcb) h2.1), Nat.lt_of_lt_of_le h2.2 (Nat.le_of_eq hz7.symm)⟩
    ·exact (((ho.mono fun b hb => .inr hb).trans (Only.of_below U)).trans (Only.of_below Kq)).trans ((h6.mono fun b hb => .inl (hA4 b hb).1).trans (hst.mono fun b hb => .inr hb))
   refine aC rfl (fun K hK => ?_) aN
   ·go_simp
    refine hK.out _ _ (by (try dsimp only); first | exact ⟨pc 0, pc 1, pc 2, pc 3⟩ | exact ⟨pcA 0, pcA 1, pcA 2, pcA 3⟩ | exact ⟨pc6 0, pc6 1, pc6 2, pc6 3⟩) (fun hH => ?_)
    clear hK K
    try simp only [Act.put, pX]
    refine wR (rs := [4]) (by kernel_rfl) (by simp) ?_
    refine aC rfl (fun K hK => ?_) aN
    go_simp
    refine hK.out _ _ (by (try dsimp only); first | exact ⟨pc 0, pc 1, pc 2, pc 3⟩ | exact ⟨pcA 0, pcA 1, pcA 2, pcA 3⟩ | exact ⟨pc6 0, pc6 1, pc6 2, pc6 3⟩) (fun hH => ?_)
    clear hK K
    try simp only [Act.put, pX]
    refine wR (rs := [7]) (by kernel_rfl) (by simp) ?_
    refine aC rfl (fun K hK => ?_) aN
    refine step_cat rfl _ _ _ (by rfl) Tryz.underlying25 info_impl_Card rfl (by decide) (by rfl) M4.outer.own (by rfl) (m := 1) (BA.sees (s := 4) (Nat.zero_le _) rfl) (by rfl) (by omega) (by omega) (by decide) (Nat.zero_le _) ?_
    intro A6 c6 w6 o6 h6 b6 q6
    have hA4 : ∀ b, OwnB A4 b → Hue S col 4 b := M4.outer.top
    have Bg6 := Bg.only h6 (fun h => hg (hA4 g h).1)
    have pg6 := Bg6.cell
    have fg6 := Bg6.frozen
    have Bc6 := Bc.only h6 (fun h => Nat.lt_irrefl _ (hS cb (hA4 cb h).1))
    have pc6 := Bc6.cell
    have Bg7 := Bg6.set_ 4 (.slice A6 (n4 + 1) c6)
    have pc7 := (Bc6.far (p := ⟨g, 4, none⟩) (fun (e : cb = g) => by omega) (.slice A6 (n4 + 1) c6)).cell
    refine hK.out _ _ (by (try dsimp only); first | exact ⟨pc 0, pc 1, pc 2, pc 3⟩ | exact ⟨pcA 0, pcA 1, pcA 2, pcA 3⟩ | exact ⟨pc6 0, pc6 1, pc6 2, pc6 3⟩) (fun hH => ?_)
    clear hK K
    try simp only [Act.put, pX]
    refine wT (i := 8) (v := ?_) rfl (by kernel_rfl) (by kernel_rfl) (by kernel_rfl) (fun _ _ _ h => h) (Or.inl ⟨by rfl, ?_⟩) (by assumption) ?_
    rotate_left 1
    ·(intro w hSw; (try dsimp only at hSw); go_simp; try with_reducible rfl)
    simp only [Act.put, pX]
    refine wT (i := 9) (v := ?_) rfl (by kernel_rfl) (by kernel_rfl) (by kernel_rfl) (fun _ _ _ h => h) (Or.inl ⟨by rfl, ?_⟩) (by assumption) ?_
    rotate_left 1
    ·(intro w hSw; (try dsimp only at hSw); go_simp; try with_reducible rfl)
    simp only [Act.put, pX]
    refine wR (rs := [10]) (by kernel_rfl) (by simp) ?_
    refine aC rfl (fun K hK => ?_) aN
    go_simp
    refine hK.out _ _ (by (try dsimp only); exact ⟨pc7 0, pc7 1, pc7 2, pc7 3⟩) (fun hH => ?_)
    clear hK K
    try simp only [Act.put, pX]
    refine wD (by kernel_rfl) ?_ _
    go_wp2_with fail
    go_ret
    have hp : putsB d r.x = false := by unfold putsB; rw [HK.out]; rfl
    have hcb := Bc.lt
    have hgw := Bg.lt
    have hSw : ∀ b, S b → b < ((w4.alloc (.cells #[.int .i64 r.x.number, .int .i64 r.x.start, .int .i64 r.x.finish, .slice r.A r.n r.c] 31)).drew).heap.size := fun b hb => Nat.lt_trans (hS b hb) hcb
    have hst : Only (fun b => b = g) w6 (w6.setCell ⟨g, 4, none⟩ (.slice A6 (n4 + 1) c6)) := (Only.refl (fun b => b = g) w6).setCell (p := ⟨g, 4, none⟩) rfl _
    have hz7 : (w6.setCell ⟨g, 4, none⟩ (.slice A6 (n4 + 1) c6)).heap.size = w6.heap.size := by simp [World.setCell]
    have T := MineCW.trouble (A2 := some ⟨gq, off, none⟩) (n2 := 0) (c2 := 0) mc hSw hrs M4.inners M4.apart mr m2 hA4 h6 (fun b hb => (q6 b hb).imp id fun h => ⟨h, (own_top o6 hb).2⟩) (by rw [List.flatMap_append]; exact o6)
    refine ⟨⟨A0, n0, e0, A1, n1, e1, some ⟨gq, off, none⟩, 0, 0, A3, n3, e3, A6, n4 + 1, c6⟩, r.x, [], HQ.out, ret_bool hp.symm, Bg7, ?_, ⟨rfl, Nat.le_refl _, rfl, rfl, Nat.le_succ _, Nat.le_refl _⟩, ?_⟩
    ·rw [HD.out, hp]
     exact (T.only hst (fun b h1 (h2 : b = g) => by
      rcases h1 with h1 | h1
      ·exact hSg b h1 h2
      ·exact absurd (h2 ▸ h1.1) (Nat.not_le_of_lt hgw))).wide fun b h1 => h1.imp id fun h2 => ⟨Nat.le_trans (Nat.le_of_eq HCB.out) (Nat.le_trans (Nat.le_of_lt hcb) h2.1), Nat.lt_of_lt_of_le h2.2 (Nat.le_of_eq hz7.symm)⟩
    ·exact (((ho.mono fun b hb => .inr hb).trans (Only.of_below U)).trans (Only.of_below Kq)).trans ((h6.mono fun b hb => .inl (hA4 b hb).1).trans (hst.mono fun b hb => .inr hb))
  have HK := Lib.hid hkn
  clear hkn
  cases hdn : doneB d.done r.x.number
  ·have HDN := Lib.hid hdn
   clear hdn
   refine wp_region_held_drew (S := fun w' => w'.cell? ⟨g, 1, none⟩ = some (.slice A1 n1 e1) ∧ w'.cell? ⟨g, 3, none⟩ = some (.slice A3 n3 e3) ∧ w'.cell? ⟨cb, 0, none⟩ = some (.int .i64 r.x.number)) (by kernel_rfl) (by (try dsimp only); exact ⟨pg 1, pg 3, pc 0⟩) (fun hH => ?_)
   refine wT (i := 0) (v := ?_) rfl (by kernel_rfl) (by kernel_rfl) (by kernel_rfl) (fun _ _ _ h => h) (Or.inl ⟨by rfl, ?_⟩) (by assumption) ?_
   rotate_left 1
   ·(intro w hSw; (try dsimp only at hSw); go_simp; try with_reducible rfl)
   simp only [Act.put, pX]
   refine wT (i := 1) (v := ?_) rfl (by kernel_rfl) (by kernel_rfl) (by kernel_rfl) (fun _ _ _ h => h) (Or.inl ⟨by rfl, ?_⟩) (by assumption) ?_
   rotate_left 1
   ·(intro w hSw; (try dsimp only at hSw); go_simp; try with_reducible rfl)
   simp only [Act.put, pX]
   refine wT (i := 2) (v := ?_) rfl (by kernel_rfl) (by kernel_rfl) (by kernel_rfl) (fun _ _ _ h => h) (Or.inl ⟨by rfl, ?_⟩) (by assumption) ?_
   rotate_left 1
   ·(intro w hSw; (try dsimp only at hSw); go_simp; try with_reducible rfl)
   simp only [Act.put, pX]
   refine wT (i := 3) (v := ?_) rfl (by kernel_rfl) (by kernel_rfl) (by kernel_rfl) (fun _ _ _ h => h) (Or.inl ⟨by rfl, ?_⟩) (by assumption) ?_
   rotate_left 1
   ·(intro w hSw; (try dsimp only at hSw); go_simp; try with_reducible rfl)
   simp only [Act.put, pX]
   refine wT (i := 4) (v := ?_) rfl (by kernel_rfl) (by kernel_rfl) (by kernel_rfl) (fun _ _ _ h => h) (Or.inl ⟨by rfl, ?_⟩) (by assumption) ?_
   rotate_left 1
   ·(intro w hSw; (try dsimp only at hSw); go_simp; try with_reducible rfl)
   simp only [Act.put, pX]
   refine wT (i := 5) (v := ?_) rfl (by kernel_rfl) (by kernel_rfl) (by kernel_rfl) (fun _ _ _ h => h) (Or.inl ⟨by rfl, ?_⟩) (by assumption) ?_
   rotate_left 1
   ·(intro w hSw; (try dsimp only at hSw); go_simp; try with_reducible rfl)
   simp only [Act.put, pX]
   refine wR (rs := [6]) (by kernel_rfl) (by simp) ?_
   refine aC rfl (fun K hK => ?_) aN
   go_simp
   refine (Contains_has A1 n1 e1 d.known r.x.number _ x1 (by omega)).mono ?_
   rw [HK.out]
   rintro e w4 ⟨rfl, qq⟩
   have b := qq.below w3.drew.heap.size
   replace Bg := Bg.next b
   replace Bc := Bc.next b
   replace mr := mr.next b
   replace m2 := m2.next b
   replace mc := mc.next b
   replace x1 := x1.next b
   replace x3 := x3.next b
   replace Kq := bel_then Kq b
   clear b qq pg pc
   have pg := Bg.cell
   have pc := Bc.cell
   go_wp2_with fail
   refine hK.out _ _ (by (try dsimp only); exact ⟨pg 1, pg 3, pc 0⟩) (fun hH => ?_)
   clear hK K
   refine wT (i := 7) (v := ?_) rfl (by kernel_rfl) (by kernel_rfl) (by kernel_rfl) (fun _ _ _ h => h) (Or.inl ⟨by rfl, ?_⟩) (by assumption) ?_
   rotate_left 1
   ·(intro w hSw; (try dsimp only at hSw); go_simp; try with_reducible rfl)
   simp only [Act.put, pX]
   refine wT (i := 8) (v := ?_) rfl (by kernel_rfl) (by kernel_rfl) (by kernel_rfl) (fun _ _ _ h => h) (Or.inl ⟨by rfl, ?_⟩) (by assumption) ?_
   rotate_left 1
   ·(intro w hSw; (try dsimp only at hSw); go_simp; try with_reducible rfl)
   simp only [Act.put, pX]
   refine wT (i := 9) (v := ?_) rfl (by kernel_rfl) (by kernel_rfl) (by kernel_rfl) (fun _ _ _ h => h) (Or.inl ⟨by rfl, ?_⟩) (by assumption) ?_
   rotate_left 1
   ·(intro w hSw; (try dsimp only at hSw); go_simp; try with_reducible rfl)
   simp only [Act.put, pX]
   refine wT (i := 10) (v := ?_) rfl (by kernel_rfl) (by kernel_rfl) (by kernel_rfl) (fun _ _ _ h => h) (Or.inl ⟨by rfl, ?_⟩) (by assumption) ?_
   rotate_left 1
   ·(intro w hSw; (try dsimp only at hSw); go_simp; try with_reducible rfl)
   simp only [Act.put, pX]
   refine wT (i := 11) (v := ?_) rfl (by kernel_rfl) (by kernel_rfl) (by kernel_rfl) (fun _ _ _ h => h) (Or.inl ⟨by rfl, ?_⟩) (by assumption) ?_
   rotate_left 1
   ·(intro w hSw; (try dsimp only at hSw); go_simp; try with_reducible rfl)
   simp only [Act.put, pX]
   refine wT (i := 12) (v := ?_) rfl (by kernel_rfl) (by kernel_rfl) (by kernel_rfl) (fun _ _ _ h => h) (Or.inl ⟨by rfl, ?_⟩) (by assumption) ?_
   rotate_left 1
   ·(intro w hSw; (try dsimp only at hSw); go_simp; try with_reducible rfl)
   simp only [Act.put, pX]
   refine wT (i := 13) (v := ?_) rfl (by kernel_rfl) (by kernel_rfl) (by kernel_rfl) (fun _ _ _ h => h) (Or.inl ⟨by rfl, ?_⟩) (by assumption) ?_
   rotate_left 1
   ·(intro w hSw; (try dsimp only at hSw); go_simp; try with_reducible rfl)
   simp only [Act.put, pX]
   refine wT (i := 14) (v := ?_) rfl (by kernel_rfl) (by kernel_rfl) (by kernel_rfl) (fun _ _ _ h => h) (Or.inl ⟨by rfl, ?_⟩) (by assumption) ?_
   rotate_left 1
   ·(intro w hSw; (try dsimp only at hSw); go_simp; try with_reducible rfl)
   simp only [Act.put, pX]
   refine wR (rs := [15]) (by kernel_rfl) (by simp) ?_
   refine aC rfl (fun K hK => ?_) aN
   go_simp
   refine (isDone_any A3 n3 e3 d.done r.x.number _ x3 (by omega)).mono ?_
   rw [HDN.out]
   rintro e w5 ⟨rfl, b⟩
   replace Bg := Bg.next b
   replace Bc := Bc.next b
   replace mr := mr.next b
   replace m2 := m2.next b
   replace mc := mc.next b
   replace x1 := x1.next b
   replace x3 := x3.next b
   replace Kq := bel_then Kq b
   clear b pg pc
   have pg := Bg.cell
   have pc := Bc.cell
   go_wp2_with fail
   refine hK.out _ _ (by (try dsimp only); exact ⟨pg 1, pg 3, pc 0⟩) (fun hH => ?_)
   clear hK K
   refine wT (i := 16) (v := ?_) rfl (by kernel_rfl) (by kernel_rfl) (by kernel_rfl) (fun _ _ _ h => h) (Or.inl ⟨by rfl, ?_⟩) (by assumption) ?_
   rotate_left 1
   ·(intro w hSw; (try dsimp only at hSw); go_simp; try with_reducible rfl)
   simp only [Act.put, pX]
   refine wD (by kernel_rfl) ?_ _
   go_wp2_with fail
   have hrc : r.n ≤ r.c := own_cap mr.own
   have hin : r.x ∈ d.queue := by rw [HQ.out]; exact List.mem_cons_self
   have hrn : r.n ≤ 1000000 := by
    have h1 := mr.sees.count (by decide) (fun _ => rfl)
    have h2 := hf.k2 _ hin
    unfold Card.cnt at h2
    omega
   obtain ⟨tm, htm⟩ : ∃ tm, r.x.finish - r.x.start = tm := ⟨_, rfl⟩
   have hwm : IntKind.i64.wrap tm = tm := by
    have h1 := hfin _ hin
    exact IntWalk.i64_in _ (by omega)
   clear hin
   have b := (Quiet.one w5).below w5.heap.size
   replace Bg := Bg.next b
   replace Bc := Bc.next b
   replace mr := mr.next b
   replace m2 := m2.next b
   replace mc := mc.next b
   replace x1 := x1.next b
   replace x3 := x3.next b
   replace Kq := bel_then Kq b
   clear b
   have pg := Bg.cell
   have pc := Bc.cell
   refine wp_region_held_drew (S := fun w' => w'.cell? ⟨g, 0, none⟩ = some (.slice A0 n0 e0) ∧ w'.cell? ⟨cb, 0, none⟩ = some (.int .i64 r.x.number) ∧ w'.cell? ⟨cb, 1, none⟩ = some (.int .i64 r.x.start) ∧ w'.cell? ⟨cb, 2, none⟩ = some (.int .i64 r.x.finish) ∧ w'.cell? ⟨cb, 3, none⟩ = some (.slice r.A r.n r.c)) (by kernel_rfl) (by (try dsimp only); first | exact ⟨pg 0, pc 0, pc 1, pc 2, pc 3⟩ | exact ⟨pgB 0, pcB 0, pcB 1, pcB 2, pcB 3⟩ | exact ⟨pg6 0, pc6 0, pc6 1, pc6 2, pc6 3⟩) (fun hH => ?_)
   refine wT (i := 0) (v := ?_) rfl (by kernel_rfl) (by kernel_rfl) (by kernel_rfl) (fun _ _ _ h => h) (Or.inl ⟨by rfl, ?_⟩) (by assumption) ?_
   rotate_left 1
   ·(intro w hSw; (try dsimp only at hSw); go_simp; try with_reducible rfl)
   simp only [Act.put, pX]
   refine wT (i := 1) (v := ?_) rfl (by kernel_rfl) (by kernel_rfl) (by kernel_rfl) (fun _ _ _ h => h) (Or.inl ⟨by rfl, ?_⟩) (by assumption) ?_
   rotate_left 1
   ·(intro w hSw; (try dsimp only at hSw); go_simp; try with_reducible rfl)
   simp only [Act.put, pX]
   refine wT (i := 2) (v := ?_) rfl (by kernel_rfl) (by kernel_rfl) (by kernel_rfl) (fun _ _ _ h => h) (Or.inl ⟨by rfl, ?_⟩) (by assumption) ?_
   rotate_left 1
   ·(intro w hSw; (try dsimp only at hSw); go_simp; try with_reducible rfl)
   simp only [Act.put, pX]
   refine wT (i := 3) (v := ?_) rfl (by kernel_rfl) (by kernel_rfl) (by kernel_rfl) (fun _ _ _ h => h) (Or.inl ⟨by rfl, ?_⟩) (by assumption) ?_
   rotate_left 1
   ·(intro w hSw; (try dsimp only at hSw); go_simp; try with_reducible rfl)
   simp only [Act.put, pX]
   refine wT (i := 5) (v := ?_) rfl (by kernel_rfl) (by kernel_rfl) (by kernel_rfl) (fun _ _ _ h => h) (Or.inl ⟨by rfl, ?_⟩) (by assumption) ?_
   rotate_left 1
   ·(intro w hSw; (try dsimp only at hSw); go_simp; try with_reducible rfl)
   simp only [Act.put, pX]
   refine wT (i := 6) (v := ?_) rfl (by kernel_rfl) (by kernel_rfl) (by kernel_rfl) (fun _ _ _ h => h) (Or.inl ⟨by rfl, ?_⟩) (by assumption) ?_
   rotate_left 1
   ·(intro w hSw; (try dsimp only at hSw); go_simp; try with_reducible rfl)
   simp only [Act.put, pX]
   refine wT (i := 7) (v := ?_) rfl (by kernel_rfl) (by kernel_rfl) (by kernel_rfl) (fun _ _ _ h => h) (Or.inl ⟨by rfl, ?_⟩) (by assumption) ?_
   rotate_left 1
   ·(intro w hSw; (try dsimp only at hSw); go_simp; try with_reducible rfl)
   simp only [Act.put, pX]
   refine wT (i := 8) (v := ?_) rfl (by kernel_rfl) (by kernel_rfl) (by kernel_rfl) (fun _ _ _ h => h) (Or.inl ⟨by rfl, ?_⟩) (by assumption) ?_
   rotate_left 1
   ·(intro w hSw; (try dsimp only at hSw); go_simp; try with_reducible rfl)
   simp only [Act.put, pX]
   refine wT (i := 9) (v := ?_) rfl (by kernel_rfl) (by kernel_rfl) (by kernel_rfl) (fun _ _ _ h => h) (Or.inl ⟨by rfl, ?_⟩) (by assumption) ?_
   rotate_left 1
   ·(intro w hSw; (try dsimp only at hSw); go_simp; try with_reducible rfl)
   simp only [Act.put, pX]
   refine wT (i := 10) (v := ?_) rfl (by kernel_rfl) (by kernel_rfl) (by kernel_rfl) (fun _ _ _ h => h) (Or.inl ⟨by rfl, ?_⟩) (by assumption) ?_
   rotate_left 1
   ·(intro w hSw; (try dsimp only at hSw); go_simp; try with_reducible rfl)
   simp only [Act.put, pX]
   refine wT (i := 11) (v := ?_) rfl (by kernel_rfl) (by kernel_rfl) (by kernel_rfl) (fun _ _ _ h => h) (Or.inl ⟨by rfl, ?_⟩) (by assumption) ?_
   rotate_left 1
   ·(intro w hSw; (try dsimp only at hSw); go_simp; try with_reducible rfl)
   simp only [Act.put, pX]
   refine wT (i := 14) (v := ?_) rfl (by kernel_rfl) (by kernel_rfl) (by kernel_rfl) (fun _ _ _ h => h) (Or.inl ⟨by rfl, ?_⟩) (by assumption) ?_
   rotate_left 1
   ·(intro w hSw; (try dsimp only at hSw); go_simp; try with_reducible rfl)
   simp only [Act.put, pX]
   refine wT (i := 15) (v := ?_) rfl (by kernel_rfl) (by kernel_rfl) (by kernel_rfl) (fun _ _ _ h => h) (Or.inl ⟨by rfl, ?_⟩) (by assumption) ?_
   rotate_left 1
   ·(intro w hSw; (try dsimp only at hSw); go_simp; try with_reducible rfl)
   simp only [Act.put, pX]
   refine wT (i := 16) (v := ?_) rfl (by kernel_rfl) (by kernel_rfl) (by kernel_rfl) (fun _ _ _ h => h) (Or.inl ⟨by rfl, ?_⟩) (by assumption) ?_
   rotate_left 1
   ·(intro w hSw; (try dsimp only at hSw); go_simp; try with_reducible rfl)
   simp only [Act.put, pX]
   refine wT (i := 17) (v := ?_) rfl (by kernel_rfl) (by kernel_rfl) (by kernel_rfl) (fun _ _ _ h => h) (Or.inl ⟨by rfl, ?_⟩) (by assumption) ?_
   rotate_left 1
   ·(intro w hSw; (try dsimp only at hSw); go_simp; try with_reducible rfl)
   simp only [Act.put, pX]
   refine wT (i := 18) (v := ?_) rfl (by kernel_rfl) (by kernel_rfl) (by kernel_rfl) (fun _ _ _ h => h) (Or.inl ⟨by rfl, ?_⟩) (by assumption) ?_
   rotate_left 1
   ·(intro w hSw; (try dsimp only at hSw); go_simp; try with_reducible rfl)
   simp only [Act.put, pX]
   refine wR (rs := [4, 12]) (by kernel_rfl) (by simp) ?_
   refine aC rfl (fun K hK => ?_) ?_
   ·go_simp
    refine hK.out _ _ (by (try dsimp only); first | exact ⟨pg 0, pc 0, pc 1, pc 2, pc 3⟩ | exact ⟨pgB 0, pcB 0, pcB 1, pcB 2, pcB 3⟩ | exact ⟨pg6 0, pc6 0, pc6 1, pc6 2, pc6 3⟩) (fun hH => ?_)
    clear hK K
    try simp only [Act.put, pX]
    refine wR (rs := [12]) (by kernel_rfl) (by simp) ?_
    refine aC rfl (fun K hK => ?_) aN
    go_simp
    refine (missingCodes_any r.A r.n r.c r.x A0 n0 e0 d.codes _ mr.sees (by omega) hrc (mc.f0.sees) (by omega)).mono ?_
    rintro e w6 ⟨AM, cM, rfl, oM, b⟩
    clear oM pg pc
    replace Bg := Bg.next b
    replace Bc := Bc.next b
    replace mr := mr.next b
    replace m2 := m2.next b
    replace mc := mc.next b
    replace x1 := x1.next b
    replace x3 := x3.next b
    replace Kq := bel_then Kq b
    clear b
    have pg := Bg.cell
    have pc := Bc.cell
    have UB : Below w6.heap.size w6 (w6.alloc (.cells #[.int .i64 r.x.number, .int .i64 (((missL r.x d.codes).length : Nat) : Int), .int .i64 tm] 41)) := (Below.refl _ _).alloc (Nat.le_refl _) _
    have BR : Blk (w6.alloc (.cells #[.int .i64 r.x.number, .int .i64 (((missL r.x d.codes).length : Nat) : Int), .int .i64 tm] 41)) w6.heap.size 41 [.int .i64 r.x.number, .int .i64 (((missL r.x d.codes).length : Nat) : Int), .int .i64 tm] := Blk.at_ rfl
    have BgB := Bg.next UB
    have BcB := Bc.next UB
    have mcB := mc.next UB
    have mrB := mr.next UB
    have m2B := m2.next UB
    have KqB := bel_then Kq UB
    have pgB := BgB.cell
    have pcB := BcB.cell
    go_wp2_with fail
    refine hK.out _ _ (by (try dsimp only); first | exact ⟨pg 0, pc 0, pc 1, pc 2, pc 3⟩ | exact ⟨pgB 0, pcB 0, pcB 1, pcB 2, pcB 3⟩ | exact ⟨pg6 0, pc6 0, pc6 1, pc6 2, pc6 3⟩) (fun hH => ?_)
    clear hK K
    refine wT (i := 13) (v := ?_) rfl (by kernel_rfl) (by kernel_rfl) (by kernel_rfl) (fun _ _ _ h => h) (Or.inl ⟨by rfl, ?_⟩) (by assumption) ?_
    rotate_left 1
    ·(intro w hSw; (try dsimp only at hSw); go_simp; try with_reducible rfl)
    simp only [Act.put, pX]
    refine wT (i := 19) (v := ?_) rfl (by kernel_rfl) (by kernel_rfl) (by kernel_rfl) (fun _ _ _ h => h) (Or.inl ⟨by rfl, ?_⟩) (by assumption) ?_
    rotate_left 1
    ·(intro w hSw; (try dsimp only at hSw); go_simp; try with_reducible rfl)
    simp only [Act.put, pX]
    refine wR (rs := [20]) (by kernel_rfl) (by simp) ?_
    refine aC rfl (fun K hK => ?_) aN
    go_simp
    refine hK.out _ _ (by (try dsimp only); first | exact ⟨pg 0, pc 0, pc 1, pc 2, pc 3⟩ | exact ⟨pgB 0, pcB 0, pcB 1, pcB 2, pcB 3⟩ | exact ⟨pg6 0, pc6 0, pc6 1, pc6 2, pc6 3⟩) (fun hH => ?_)
    clear hK K
    try simp only [Act.put, pX]
    refine wR (rs := [21]) (by kernel_rfl) (by simp) ?_
    refine aC rfl (fun K hK => ?_) aN
    refine step_cat rfl _ _ _ (by rfl) Tryz.underlying26 info_impl_DeskRow rfl (by decide) (by rfl) mcB.f3.own (by rfl) (m := 1) (BR.sees (s := 3) (Nat.zero_le _) rfl) (by rfl) (show n3 ≤ 1000000000 by omega) (by omega) (by decide) (Nat.zero_le _) ?_
    intro A6 c6 w7 o6 h6 b6 q6
    have hA3 : ∀ b, OwnB A3 b → Hue S col 3 b := mcB.f3.top
    have Bg6 := BgB.only h6 (fun h => hg (hA3 g h).1)
    have pg6 := Bg6.cell
    have fg6 := Bg6.frozen
    have Bc6 := BcB.only h6 (fun h => Nat.lt_irrefl _ (hS cb (hA3 cb h).1))
    have pc6 := Bc6.cell
    have Bg7 := Bg6.set_ 3 (.slice A6 (n3 + 1) c6)
    have pc7 := (Bc6.far (p := ⟨g, 3, none⟩) (fun (e : cb = g) => by omega) (.slice A6 (n3 + 1) c6)).cell
    have pg7 := Bg7.cell
    refine hK.out _ _ (by (try dsimp only); first | exact ⟨pg 0, pc 0, pc 1, pc 2, pc 3⟩ | exact ⟨pgB 0, pcB 0, pcB 1, pcB 2, pcB 3⟩ | exact ⟨pg6 0, pc6 0, pc6 1, pc6 2, pc6 3⟩) (fun hH => ?_)
    clear hK K
    try simp only [Act.put, pX]
    refine wT (i := 22) (v := ?_) rfl (by kernel_rfl) (by kernel_rfl) (by kernel_rfl) (fun _ _ _ h => h) (Or.inl ⟨by rfl, ?_⟩) (by assumption) ?_
    rotate_left 1
    ·(intro w hSw; (try dsimp only at hSw); go_simp; try with_reducible rfl)
    simp only [Act.put, pX]
    refine wT (i := 23) (v := ?_) rfl (by kernel_rfl) (by kernel_rfl) (by kernel_rfl) (fun _ _ _ h => h) (Or.inl ⟨by rfl, ?_⟩) (by assumption) ?_
    rotate_left 1
    ·(intro w hSw; (try dsimp only at hSw); go_simp; try with_reducible rfl)
    simp only [Act.put, pX]
    refine wR (rs := [24]) (by kernel_rfl) (by simp) ?_
    refine aC rfl (fun K hK => ?_) aN
    go_simp
    refine hK.out _ _ (by (try dsimp only); exact ⟨pg7 0, pc7 0, pc7 1, pc7 2, pc7 3⟩) (fun hH => ?_)
    clear hK K
    try simp only [Act.put, pX]
    refine wD (by kernel_rfl) ?_ _
    go_wp2_with fail
    go_ret
    have hp : putsB d r.x = true := by unfold putsB; rw [HK.out, HDN.out]; rfl
    have hcb := BcB.lt
    have hgw := BgB.lt
    have hSw : ∀ b, S b → b < ((w6.alloc (.cells #[.int .i64 r.x.number, .int .i64 (((missL r.x d.codes).length : Nat) : Int), .int .i64 tm] 41))).heap.size := fun b hb => Nat.lt_trans (hS b hb) hcb
    have hst : Only (fun b => b = g) w7 (w7.setCell ⟨g, 3, none⟩ (.slice A6 (n3 + 1) c6)) := (Only.refl (fun b => b = g) w7).setCell (p := ⟨g, 3, none⟩) rfl _
    have hz7 : (w7.setCell ⟨g, 3, none⟩ (.slice A6 (n3 + 1) c6)).heap.size = w7.heap.size := by simp [World.setCell]
    have hro : (rowOf d r.x).enc = [.int .i64 r.x.number, .int .i64 (((missL r.x d.codes).length : Nat) : Int), .int .i64 tm] := by unfold rowOf; rw [htm]; rfl
    have T := MineCW.done (A2 := some ⟨gq, off, none⟩) (n2 := 0) (c2 := 0) (ds := d.done ++ [rowOf d r.x]) mcB hSw m2B (h6.mono hA3) ⟨by rw [List.flatMap_append, List.flatMap_singleton, hro]; exact o6, fun b hb => (q6 b hb).imp (hA3 b) fun h => ⟨h, (own_top o6 hb).2⟩⟩
    refine ⟨⟨A0, n0, e0, A1, n1, e1, some ⟨gq, off, none⟩, 0, 0, A6, n3 + 1, c6, A4, n4, e4⟩, r.x, [], HQ.out, ret_bool hp.symm, Bg7, ?_, ⟨rfl, Nat.le_refl _, rfl, rfl, Nat.le_refl _, Nat.le_succ _⟩, ?_⟩
    ·rw [HD.out, hp]
     exact (T.only hst (fun b h1 (h2 : b = g) => by
      rcases h1 with h1 | h1
      ·exact hSg b h1 h2
      ·exact absurd (h2 ▸ h1.1) (Nat.not_le_of_lt hgw))).wide fun b h1 => h1.imp id fun h2 => ⟨Nat.le_trans (Nat.le_of_eq HCB.out) (Nat.le_trans (Nat.le_of_lt hcb) h2.1), Nat.lt_of_lt_of_le h2.2 (Nat.le_of_eq hz7.symm)⟩
    ·exact (((ho.mono fun b hb => .inr hb).trans (Only.of_below U)).trans (Only.of_below KqB)).trans ((h6.mono fun b hb => .inl (hA3 b hb).1).trans (hst.mono fun b hb => .inr hb))
   refine aC rfl (fun K hK => ?_) aN
   ·go_simp
    refine (missingCodes_any r.A r.n r.c r.x A0 n0 e0 d.codes _ mr.sees (by omega) hrc (mc.f0.sees) (by omega)).mono ?_
    rintro e w6 ⟨AM, cM, rfl, oM, b⟩
    clear oM pg pc
    replace Bg := Bg.next b
    replace Bc := Bc.next b
    replace mr := mr.next b
    replace m2 := m2.next b
    replace mc := mc.next b
    replace x1 := x1.next b
    replace x3 := x3.next b
    replace Kq := bel_then Kq b
    clear b
    have pg := Bg.cell
    have pc := Bc.cell
    have UB : Below w6.heap.size w6 (w6.alloc (.cells #[.int .i64 r.x.number, .int .i64 (((missL r.x d.codes).length : Nat) : Int), .int .i64 tm] 41)) := (Below.refl _ _).alloc (Nat.le_refl _) _
    have BR : Blk (w6.alloc (.cells #[.int .i64 r.x.number, .int .i64 (((missL r.x d.codes).length : Nat) : Int), .int .i64 tm] 41)) w6.heap.size 41 [.int .i64 r.x.number, .int .i64 (((missL r.x d.codes).length : Nat) : Int), .int .i64 tm] := Blk.at_ rfl
    have BgB := Bg.next UB
    have BcB := Bc.next UB
    have mcB := mc.next UB
    have mrB := mr.next UB
    have m2B := m2.next UB
    have KqB := bel_then Kq UB
    have pgB := BgB.cell
    have pcB := BcB.cell
    go_wp2_with fail
    refine hK.out _ _ (by (try dsimp only); first | exact ⟨pg 0, pc 0, pc 1, pc 2, pc 3⟩ | exact ⟨pgB 0, pcB 0, pcB 1, pcB 2, pcB 3⟩ | exact ⟨pg6 0, pc6 0, pc6 1, pc6 2, pc6 3⟩) (fun hH => ?_)
    clear hK K
    refine wT (i := 13) (v := ?_) rfl (by kernel_rfl) (by kernel_rfl) (by kernel_rfl) (fun _ _ _ h => h) (Or.inl ⟨by rfl, ?_⟩) (by assumption) ?_
    rotate_left 1
    ·(intro w hSw; (try dsimp only at hSw); go_simp; try with_reducible rfl)
    simp only [Act.put, pX]
    refine wT (i := 19) (v := ?_) rfl (by kernel_rfl) (by kernel_rfl) (by kernel_rfl) (fun _ _ _ h => h) (Or.inl ⟨by rfl, ?_⟩) (by assumption) ?_
    rotate_left 1
    ·(intro w hSw; (try dsimp only at hSw); go_simp; try with_reducible rfl)
    simp only [Act.put, pX]
    refine wR (rs := [4, 20]) (by kernel_rfl) (by simp) ?_
    refine aC rfl (fun K hK => ?_) ?_
    ·go_simp
     refine hK.out _ _ (by (try dsimp only); first | exact ⟨pg 0, pc 0, pc 1, pc 2, pc 3⟩ | exact ⟨pgB 0, pcB 0, pcB 1, pcB 2, pcB 3⟩ | exact ⟨pg6 0, pc6 0, pc6 1, pc6 2, pc6 3⟩) (fun hH => ?_)
     clear hK K
     try simp only [Act.put, pX]
     refine wR (rs := [20]) (by kernel_rfl) (by simp) ?_
     refine aC rfl (fun K hK => ?_) aN
     go_simp
     refine hK.out _ _ (by (try dsimp only); first | exact ⟨pg 0, pc 0, pc 1, pc 2, pc 3⟩ | exact ⟨pgB 0, pcB 0, pcB 1, pcB 2, pcB 3⟩ | exact ⟨pg6 0, pc6 0, pc6 1, pc6 2, pc6 3⟩) (fun hH => ?_)
     clear hK K
     try simp only [Act.put, pX]
     refine wR (rs := [21]) (by kernel_rfl) (by simp) ?_
     refine aC rfl (fun K hK => ?_) aN
     refine step_cat rfl _ _ _ (by rfl) Tryz.underlying26 info_impl_DeskRow rfl (by decide) (by rfl) mcB.f3.own (by rfl) (m := 1) (BR.sees (s := 3) (Nat.zero_le _) rfl) (by rfl) (show n3 ≤ 1000000000 by omega) (by omega) (by decide) (Nat.zero_le _) ?_
     intro A6 c6 w7 o6 h6 b6 q6
     have hA3 : ∀ b, OwnB A3 b → Hue S col 3 b := mcB.f3.top
     have Bg6 := BgB.only h6 (fun h => hg (hA3 g h).1)
     have pg6 := Bg6.cell
     have fg6 := Bg6.frozen
     have Bc6 := BcB.only h6 (fun h => Nat.lt_irrefl _ (hS cb (hA3 cb h).1))
     have pc6 := Bc6.cell
     have Bg7 := Bg6.set_ 3 (.slice A6 (n3 + 1) c6)
     have pc7 := (Bc6.far (p := ⟨g, 3, none⟩) (fun (e : cb = g) => by omega) (.slice A6 (n3 + 1) c6)).cell
     have pg7 := Bg7.cell
     refine hK.out _ _ (by (try dsimp only); first | exact ⟨pg 0, pc 0, pc 1, pc 2, pc 3⟩ | exact ⟨pgB 0, pcB 0, pcB 1, pcB 2, pcB 3⟩ | exact ⟨pg6 0, pc6 0, pc6 1, pc6 2, pc6 3⟩) (fun hH => ?_)
     clear hK K
     try simp only [Act.put, pX]
     refine wT (i := 22) (v := ?_) rfl (by kernel_rfl) (by kernel_rfl) (by kernel_rfl) (fun _ _ _ h => h) (Or.inl ⟨by rfl, ?_⟩) (by assumption) ?_
     rotate_left 1
     ·(intro w hSw; (try dsimp only at hSw); go_simp; try with_reducible rfl)
     simp only [Act.put, pX]
     refine wT (i := 23) (v := ?_) rfl (by kernel_rfl) (by kernel_rfl) (by kernel_rfl) (fun _ _ _ h => h) (Or.inl ⟨by rfl, ?_⟩) (by assumption) ?_
     rotate_left 1
     ·(intro w hSw; (try dsimp only at hSw); go_simp; try with_reducible rfl)
     simp only [Act.put, pX]
     refine wR (rs := [24]) (by kernel_rfl) (by simp) ?_
     refine aC rfl (fun K hK => ?_) aN
     go_simp
     refine hK.out _ _ (by (try dsimp only); exact ⟨pg7 0, pc7 0, pc7 1, pc7 2, pc7 3⟩) (fun hH => ?_)
     clear hK K
     try simp only [Act.put, pX]
     refine wD (by kernel_rfl) ?_ _
     go_wp2_with fail
     go_ret
     have hp : putsB d r.x = true := by unfold putsB; rw [HK.out, HDN.out]; rfl
     have hcb := BcB.lt
     have hgw := BgB.lt
     have hSw : ∀ b, S b → b < ((w6.alloc (.cells #[.int .i64 r.x.number, .int .i64 (((missL r.x d.codes).length : Nat) : Int), .int .i64 tm] 41))).heap.size := fun b hb => Nat.lt_trans (hS b hb) hcb
     have hst : Only (fun b => b = g) w7 (w7.setCell ⟨g, 3, none⟩ (.slice A6 (n3 + 1) c6)) := (Only.refl (fun b => b = g) w7).setCell (p := ⟨g, 3, none⟩) rfl _
     have hz7 : (w7.setCell ⟨g, 3, none⟩ (.slice A6 (n3 + 1) c6)).heap.size = w7.heap.size := by simp [World.setCell]
     have hro : (rowOf d r.x).enc = [.int .i64 r.x.number, .int .i64 (((missL r.x d.codes).length : Nat) : Int), .int .i64 tm] := by unfold rowOf; rw [htm]; rfl
     have T := MineCW.done (A2 := some ⟨gq, off, none⟩) (n2 := 0) (c2 := 0) (ds := d.done ++ [rowOf d r.x]) mcB hSw m2B (h6.mono hA3) ⟨by rw [List.flatMap_append, List.flatMap_singleton, hro]; exact o6, fun b hb => (q6 b hb).imp (hA3 b) fun h => ⟨h, (own_top o6 hb).2⟩⟩
     refine ⟨⟨A0, n0, e0, A1, n1, e1, some ⟨gq, off, none⟩, 0, 0, A6, n3 + 1, c6, A4, n4, e4⟩, r.x, [], HQ.out, ret_bool hp.symm, Bg7, ?_, ⟨rfl, Nat.le_refl _, rfl, rfl, Nat.le_refl _, Nat.le_succ _⟩, ?_⟩
     ·rw [HD.out, hp]
      exact (T.only hst (fun b h1 (h2 : b = g) => by
       rcases h1 with h1 | h1
       ·exact hSg b h1 h2
       ·exact absurd (h2 ▸ h1.1) (Nat.not_le_of_lt hgw))).wide fun b h1 => h1.imp id fun h2 => ⟨Nat.le_trans (Nat.le_of_eq HCB.out) (Nat.le_trans (Nat.le_of_lt hcb) h2.1), Nat.lt_of_lt_of_le h2.2 (Nat.le_of_eq hz7.symm)⟩
     ·exact (((ho.mono fun b hb => .inr hb).trans (Only.of_below U)).trans (Only.of_below KqB)).trans ((h6.mono fun b hb => .inl (hA3 b hb).1).trans (hst.mono fun b hb => .inr hb))
    refine aC rfl (fun K hK => ?_) aN
    ·go_simp
     refine hK.out _ _ (by (try dsimp only); first | exact ⟨pg 0, pc 0, pc 1, pc 2, pc 3⟩ | exact ⟨pgB 0, pcB 0, pcB 1, pcB 2, pcB 3⟩ | exact ⟨pg6 0, pc6 0, pc6 1, pc6 2, pc6 3⟩) (fun hH => ?_)
     clear hK K
     try simp only [Act.put, pX]
     refine wR (rs := [4]) (by kernel_rfl) (by simp) ?_
     refine aC rfl (fun K hK => ?_) aN
     go_simp
     refine hK.out _ _ (by (try dsimp only); first | exact ⟨pg 0, pc 0, pc 1, pc 2, pc 3⟩ | exact ⟨pgB 0, pcB 0, pcB 1, pcB 2, pcB 3⟩ | exact ⟨pg6 0, pc6 0, pc6 1, pc6 2, pc6 3⟩) (fun hH => ?_)
     clear hK K
     try simp only [Act.put, pX]
     refine wR (rs := [21]) (by kernel_rfl) (by simp) ?_
     refine aC rfl (fun K hK => ?_) aN
     refine step_cat rfl _ _ _ (by rfl) Tryz.underlying26 info_impl_DeskRow rfl (by decide) (by rfl) mcB.f3.own (by rfl) (m := 1) (BR.sees (s := 3) (Nat.zero_le _) rfl) (by rfl) (show n3 ≤ 1000000000 by omega) (by omega) (by decide) (Nat.zero_le _) ?_
     intro A6 c6 w7 o6 h6 b6 q6
     have hA3 : ∀ b, OwnB A3 b → Hue S col 3 b := mcB.f3.top
     have Bg6 := BgB.only h6 (fun h => hg (hA3 g h).1)
     have pg6 := Bg6.cell
     have fg6 := Bg6.frozen
     have Bc6 := BcB.only h6 (fun h => Nat.lt_irrefl _ (hS cb (hA3 cb h).1))
     have pc6 := Bc6.cell
     have Bg7 := Bg6.set_ 3 (.slice A6 (n3 + 1) c6)
     have pc7 := (Bc6.far (p := ⟨g, 3, none⟩) (fun (e : cb = g) => by omega) (.slice A6 (n3 + 1) c6)).cell
     have pg7 := Bg7.cell
     refine hK.out _ _ (by (try dsimp only); first | exact ⟨pg 0, pc 0, pc 1, pc 2, pc 3⟩ | exact ⟨pgB 0, pcB 0, pcB 1, pcB 2, pcB 3⟩ | exact ⟨pg6 0, pc6 0, pc6 1, pc6 2, pc6 3⟩) (fun hH => ?_)
     clear hK K
     try simp only [Act.put, pX]
     refine wT (i := 22) (v := ?_) rfl (by kernel_rfl) (by kernel_rfl) (by kernel_rfl) (fun _ _ _ h => h) (Or.inl ⟨by rfl, ?_⟩) (by assumption) ?_
     rotate_left 1
     ·(intro w hSw; (try dsimp only at hSw); go_simp; try with_reducible rfl)
     simp only [Act.put, pX]
     refine wT (i := 23) (v := ?_) rfl (by kernel_rfl) (by kernel_rfl) (by kernel_rfl) (fun _ _ _ h => h) (Or.inl ⟨by rfl, ?_⟩) (by assumption) ?_
     rotate_left 1
     ·(intro w hSw; (try dsimp only at hSw); go_simp; try with_reducible rfl)
     simp only [Act.put, pX]
     refine wR (rs := [24]) (by kernel_rfl) (by simp) ?_
     refine aC rfl (fun K hK => ?_) aN
     go_simp
     refine hK.out _ _ (by (try dsimp only); exact ⟨pg7 0, pc7 0, pc7 1, pc7 2, pc7 3⟩) (fun hH => ?_)
     clear hK K
     try simp only [Act.put, pX]
     refine wD (by kernel_rfl) ?_ _
     go_wp2_with fail
     go_ret
     have hp : putsB d r.x = true := by unfold putsB; rw [HK.out, HDN.out]; rfl
     have hcb := BcB.lt
     have hgw := BgB.lt
     have hSw : ∀ b, S b → b < ((w6.alloc (.cells #[.int .i64 r.x.number, .int .i64 (((missL r.x d.codes).length : Nat) : Int), .int .i64 tm] 41))).heap.size := fun b hb => Nat.lt_trans (hS b hb) hcb
     have hst : Only (fun b => b = g) w7 (w7.setCell ⟨g, 3, none⟩ (.slice A6 (n3 + 1) c6)) := (Only.refl (fun b => b = g) w7).setCell (p := ⟨g, 3, none⟩) rfl _
     have hz7 : (w7.setCell ⟨g, 3, none⟩ (.slice A6 (n3 + 1) c6)).heap.size = w7.heap.size := by simp [World.setCell]
     have hro : (rowOf d r.x).enc = [.int .i64 r.x.number, .int .i64 (((missL r.x d.codes).length : Nat) : Int), .int .i64 tm] := by unfold rowOf; rw [htm]; rfl
     have T := MineCW.done (A2 := some ⟨gq, off, none⟩) (n2 := 0) (c2 := 0) (ds := d.done ++ [rowOf d r.x]) mcB hSw m2B (h6.mono hA3) ⟨by rw [List.flatMap_append, List.flatMap_singleton, hro]; exact o6, fun b hb => (q6 b hb).imp (hA3 b) fun h => ⟨h, (own_top o6 hb).2⟩⟩
     refine ⟨⟨A0, n0, e0, A1, n1, e1, some ⟨gq, off, none⟩, 0, 0, A6, n3 + 1, c6, A4, n4, e4⟩, r.x, [], HQ.out, ret_bool hp.symm, Bg7, ?_, ⟨rfl, Nat.le_refl _, rfl, rfl, Nat.le_refl _, Nat.le_succ _⟩, ?_⟩
     ·rw [HD.out, hp]
      exact (T.only hst (fun b h1 (h2 : b = g) => by
       rcases h1 with h1 | h1
       ·exact hSg b h1 h2
       ·exact absurd (h2 ▸ h1.1) (Nat.not_le_of_lt hgw))).wide fun b h1 => h1.imp id fun h2 => ⟨Nat.le_trans (Nat.le_of_eq HCB.out) (Nat.le_trans (Nat.le_of_lt hcb) h2.1), Nat.lt_of_lt_of_le h2.2 (Nat.le_of_eq hz7.symm)⟩
     ·exact (((ho.mono fun b hb => .inr hb).trans (Only.of_below U)).trans (Only.of_below KqB)).trans ((h6.mono fun b hb => .inl (hA3 b hb).1).trans (hst.mono fun b hb => .inr hb))
  have HDN := Lib.hid hdn
  clear hdn
  refine wp_region_held_drew (S := fun w' => w'.cell? ⟨g, 1, none⟩ = some (.slice A1 n1 e1) ∧ w'.cell? ⟨g, 3, none⟩ = some (.slice A3 n3 e3) ∧ w'.cell? ⟨cb, 0, none⟩ = some (.int .i64 r.x.number)) (by kernel_rfl) (by (try dsimp only); exact ⟨pg 1, pg 3, pc 0⟩) (fun hH => ?_)
  refine wT (i := 0) (v := ?_) rfl (by kernel_rfl) (by kernel_rfl) (by kernel_rfl) (fun _ _ _ h => h) (Or.inl ⟨by rfl, ?_⟩) (by assumption) ?_
  rotate_left 1
  ·(intro w hSw; (try dsimp only at hSw); go_simp; try with_reducible rfl)
  simp only [Act.put, pX]
  refine wT (i := 1) (v := ?_) rfl (by kernel_rfl) (by kernel_rfl) (by kernel_rfl) (fun _ _ _ h => h) (Or.inl ⟨by rfl, ?_⟩) (by assumption) ?_
  rotate_left 1
  ·(intro w hSw; (try dsimp only at hSw); go_simp; try with_reducible rfl)
  simp only [Act.put, pX]
  refine wT (i := 2) (v := ?_) rfl (by kernel_rfl) (by kernel_rfl) (by kernel_rfl) (fun _ _ _ h => h) (Or.inl ⟨by rfl, ?_⟩) (by assumption) ?_
  rotate_left 1
  ·(intro w hSw; (try dsimp only at hSw); go_simp; try with_reducible rfl)
  simp only [Act.put, pX]
  refine wT (i := 3) (v := ?_) rfl (by kernel_rfl) (by kernel_rfl) (by kernel_rfl) (fun _ _ _ h => h) (Or.inl ⟨by rfl, ?_⟩) (by assumption) ?_
  rotate_left 1
  ·(intro w hSw; (try dsimp only at hSw); go_simp; try with_reducible rfl)
  simp only [Act.put, pX]
  refine wT (i := 4) (v := ?_) rfl (by kernel_rfl) (by kernel_rfl) (by kernel_rfl) (fun _ _ _ h => h) (Or.inl ⟨by rfl, ?_⟩) (by assumption) ?_
  rotate_left 1
  ·(intro w hSw; (try dsimp only at hSw); go_simp; try with_reducible rfl)
  simp only [Act.put, pX]
  refine wT (i := 5) (v := ?_) rfl (by kernel_rfl) (by kernel_rfl) (by kernel_rfl) (fun _ _ _ h => h) (Or.inl ⟨by rfl, ?_⟩) (by assumption) ?_
  rotate_left 1
  ·(intro w hSw; (try dsimp only at hSw); go_simp; try with_reducible rfl)
  simp only [Act.put, pX]
  refine wR (rs := [6]) (by kernel_rfl) (by simp) ?_
  refine aC rfl (fun K hK => ?_) aN
  go_simp
  refine (Contains_has A1 n1 e1 d.known r.x.number _ x1 (by omega)).mono ?_
  rw [HK.out]
  rintro e w4 ⟨rfl, qq⟩
  have b := qq.below w3.drew.heap.size
  replace Bg := Bg.next b
  replace Bc := Bc.next b
  replace mr := mr.next b
  replace m2 := m2.next b
  replace mc := mc.next b
  replace x1 := x1.next b
  replace x3 := x3.next b
  replace Kq := bel_then Kq b
  clear b qq pg pc
  have pg := Bg.cell
  have pc := Bc.cell
  go_wp2_with fail
  refine hK.out _ _ (by (try dsimp only); exact ⟨pg 1, pg 3, pc 0⟩) (fun hH => ?_)
  clear hK K
  refine wT (i := 7) (v := ?_) rfl (by kernel_rfl) (by kernel_rfl) (by kernel_rfl) (fun _ _ _ h => h) (Or.inl ⟨by rfl, ?_⟩) (by assumption) ?_
  rotate_left 1
  ·(intro w hSw; (try dsimp only at hSw); go_simp; try with_reducible rfl)
  simp only [Act.put, pX]
  refine wT (i := 8) (v := ?_) rfl (by kernel_rfl) (by kernel_rfl) (by kernel_rfl) (fun _ _ _ h => h) (Or.inl ⟨by rfl, ?_⟩) (by assumption) ?_
  rotate_left 1
  ·(intro w hSw; (try dsimp only at hSw); go_simp; try with_reducible rfl)
  simp only [Act.put, pX]
  refine wT (i := 9) (v := ?_) rfl (by kernel_rfl) (by kernel_rfl) (by kernel_rfl) (fun _ _ _ h => h) (Or.inl ⟨by rfl, ?_⟩) (by assumption) ?_
  rotate_left 1
  ·(intro w hSw; (try dsimp only at hSw); go_simp; try with_reducible rfl)
  simp only [Act.put, pX]
  refine wT (i := 10) (v := ?_) rfl (by kernel_rfl) (by kernel_rfl) (by kernel_rfl) (fun _ _ _ h => h) (Or.inl ⟨by rfl, ?_⟩) (by assumption) ?_
  rotate_left 1
  ·(intro w hSw; (try dsimp only at hSw); go_simp; try with_reducible rfl)
  simp only [Act.put, pX]
  refine wT (i := 11) (v := ?_) rfl (by kernel_rfl) (by kernel_rfl) (by kernel_rfl) (fun _ _ _ h => h) (Or.inl ⟨by rfl, ?_⟩) (by assumption) ?_
  rotate_left 1
  ·(intro w hSw; (try dsimp only at hSw); go_simp; try with_reducible rfl)
  simp only [Act.put, pX]
  refine wT (i := 12) (v := ?_) rfl (by kernel_rfl) (by kernel_rfl) (by kernel_rfl) (fun _ _ _ h => h) (Or.inl ⟨by rfl, ?_⟩) (by assumption) ?_
  rotate_left 1
  ·(intro w hSw; (try dsimp only at hSw); go_simp; try with_reducible rfl)
  simp only [Act.put, pX]
  refine wT (i := 13) (v := ?_) rfl (by kernel_rfl) (by kernel_rfl) (by kernel_rfl) (fun _ _ _ h => h) (Or.inl ⟨by rfl, ?_⟩) (by assumption) ?_
  rotate_left 1
  ·(intro w hSw; (try dsimp only at hSw); go_simp; try with_reducible rfl)
  simp only [Act.put, pX]
  refine wT (i := 14) (v := ?_) rfl (by kernel_rfl) (by kernel_rfl) (by kernel_rfl) (fun _ _ _ h => h) (Or.inl ⟨by rfl, ?_⟩) (by assumption) ?_
  rotate_left 1
  ·(intro w hSw; (try dsimp only at hSw); go_simp; try with_reducible rfl)
  simp only [Act.put, pX]
  refine wR (rs := [15]) (by kernel_rfl) (by simp) ?_
  refine aC rfl (fun K hK => ?_) aN
  go_simp
  refine (isDone_any A3 n3 e3 d.done r.x.number _ x3 (by omega)).mono ?_
  rw [HDN.out]
  rintro e w5 ⟨rfl, b⟩
  replace Bg := Bg.next b
  replace Bc := Bc.next b
  replace mr := mr.next b
  replace m2 := m2.next b
  replace mc := mc.next b
  replace x1 := x1.next b
  replace x3 := x3.next b
  replace Kq := bel_then Kq b
  clear b pg pc
  have pg := Bg.cell
  have pc := Bc.cell
  go_wp2_with fail
  refine hK.out _ _ (by (try dsimp only); exact ⟨pg 1, pg 3, pc 0⟩) (fun hH => ?_)
  clear hK K
  refine wT (i := 16) (v := ?_) rfl (by kernel_rfl) (by kernel_rfl) (by kernel_rfl) (fun _ _ _ h => h) (Or.inl ⟨by rfl, ?_⟩) (by assumption) ?_
  rotate_left 1
  ·(intro w hSw; (try dsimp only at hSw); go_simp; try with_reducible rfl)
  simp only [Act.put, pX]
  refine wD (by kernel_rfl) ?_ _
  go_wp2_with fail
  have U4 : Below w5.heap.size w5 (w5.alloc (.cells #[.int .i64 r.x.number, .int .i64 r.x.start, .int .i64 r.x.finish, .slice r.A r.n r.c] 31)).drew := bel_then ((Below.refl _ _).alloc (Nat.le_refl _) _) ((Quiet.one _).below _)
  have BA : Blk (w5.alloc (.cells #[.int .i64 r.x.number, .int .i64 r.x.start, .int .i64 r.x.finish, .slice r.A r.n r.c] 31)).drew w5.heap.size 31 [.int .i64 r.x.number, .int .i64 r.x.start, .int .i64 r.x.finish, .slice r.A r.n r.c] := (show Blk (w5.alloc (.cells #[.int .i64 r.x.number, .int .i64 r.x.start, .int .i64 r.x.finish, .slice r.A r.n r.c] 31)) w5.heap.size 31 [.int .i64 r.x.number, .int .i64 r.x.start, .int .i64 r.x.finish, .slice r.A r.n r.c] from Blk.at_ rfl).next ((Quiet.one _).below _)
  have pg := Bg.next ((Quiet.one w5).below _) |>.cell
  have pc := Bc.next ((Quiet.one w5).below _) |>.cell
  replace Bg := Bg.next U4
  replace Bc := Bc.next U4
  replace mr := mr.next U4
  replace m2 := m2.next U4
  replace mc := mc.next U4
  replace x1 := x1.next U4
  replace x3 := x3.next U4
  replace Kq := bel_then Kq U4
  have pgA := Bg.cell
  have pcA := Bc.cell
  obtain ⟨rs, hrs, M4⟩ := mc.f4
  dsimp only at M4 hrs
  refine wp_region_held_drew (S := fun w' => w'.cell? ⟨cb, 0, none⟩ = some (.int .i64 r.x.number) ∧ w'.cell? ⟨cb, 1, none⟩ = some (.int .i64 r.x.start) ∧ w'.cell? ⟨cb, 2, none⟩ = some (.int .i64 r.x.finish) ∧ w'.cell? ⟨cb, 3, none⟩ = some (.slice r.A r.n r.c)) (by kernel_rfl) (by (try dsimp only); first | exact ⟨pc 0, pc 1, pc 2, pc 3⟩ | exact ⟨pcA 0, pcA 1, pcA 2, pcA 3⟩ | exact ⟨pc6 0, pc6 1, pc6 2, pc6 3⟩) (fun hH => ?_)
  refine wT (i := 0) (v := ?_) rfl (by kernel_rfl) (by kernel_rfl) (by kernel_rfl) (fun _ _ _ h => h) (Or.inl ⟨by rfl, ?_⟩) (by assumption) ?_
  rotate_left 1
  ·(intro w hSw; (try dsimp only at hSw); go_simp; try with_reducible rfl)
  simp only [Act.put, pX]
  refine wT (i := 1) (v := ?_) rfl (by kernel_rfl) (by kernel_rfl) (by kernel_rfl) (fun _ _ _ h => h) (Or.inl ⟨by rfl, ?_⟩) (by assumption) ?_
  rotate_left 1
  ·(intro w hSw; (try dsimp only at hSw); go_simp; try with_reducible rfl)
  simp only [Act.put, pX]
  refine wT (i := 2) (v := ?_) rfl (by kernel_rfl) (by kernel_rfl) (by kernel_rfl) (fun _ _ _ h => h) (Or.inl ⟨by rfl, ?_⟩) (by assumption) ?_
  rotate_left 1
  ·(intro w hSw; (try dsimp only at hSw); go_simp; try with_reducible rfl)
  simp only [Act.put, pX]
  refine wT (i := 3) (v := ?_) rfl (by kernel_rfl) (by kernel_rfl) (by kernel_rfl) (fun _ _ _ h => h) (Or.inl ⟨by rfl, ?_⟩) (by assumption) ?_
  rotate_left 1
  ·(intro w hSw; (try dsimp only at hSw); go_simp; try with_reducible rfl)
  simp only [Act.put, pX]
  refine wT (i := 5) (v := ?_) rfl (by kernel_rfl) (by kernel_rfl) (by kernel_rfl) (fun _ _ _ h => h) (Or.inl ⟨by rfl, ?_⟩) (by assumption) ?_
  rotate_left 1
  ·(intro w hSw; (try dsimp only at hSw); go_simp; try with_reducible rfl)
  simp only [Act.put, pX]
  refine wR (rs := [4, 6]) (by kernel_rfl) (by simp) ?_
  refine aC rfl (fun K hK => ?_) ?_
  ·go_simp
   refine hK.out _ _ (by (try dsimp only); first | exact ⟨pc 0, pc 1, pc 2, pc 3⟩ | exact ⟨pcA 0, pcA 1, pcA 2, pcA 3⟩ | exact ⟨pc6 0, pc6 1, pc6 2, pc6 3⟩) (fun hH => ?_)
   clear hK K
   try simp only [Act.put, pX]
   refine wR (rs := [6]) (by kernel_rfl) (by simp) ?_
   refine aC rfl (fun K hK => ?_) aN
   go_simp
   refine hK.out _ _ (by (try dsimp only); first | exact ⟨pc 0, pc 1, pc 2, pc 3⟩ | exact ⟨pcA 0, pcA 1, pcA 2, pcA 3⟩ | exact ⟨pc6 0, pc6 1, pc6 2, pc6 3⟩) (fun hH => ?_)
   clear hK K
   try simp only [Act.put, pX]
   refine wR (rs := [7]) (by kernel_rfl) (by simp) ?_
   refine aC rfl (fun K hK => ?_) aN
   refine step_cat rfl _ _ _ (by rfl) Tryz.underlying25 info_impl_Card rfl (by decide) (by rfl) M4.outer.own (by rfl) (m := 1) (BA.sees (s := 4) (Nat.zero_le _) rfl) (by rfl) (by omega) (by omega) (by decide) (Nat.zero_le _) ?_
   intro A6 c6 w6 o6 h6 b6 q6
   have hA4 : ∀ b, OwnB A4 b → Hue S col 4 b := M4.outer.top
   have Bg6 := Bg.only h6 (fun h => hg (hA4 g h).1)
   have pg6 := Bg6.cell
   have fg6 := Bg6.frozen
   have Bc6 := Bc.only h6 (fun h => Nat.lt_irrefl _ (hS cb (hA4 cb h).1))
   have pc6 := Bc6.cell
   have Bg7 := Bg6.set_ 4 (.slice A6 (n4 + 1) c6)
   have pc7 := (Bc6.far (p := ⟨g, 4, none⟩) (fun (e : cb = g) => by omega) (.slice A6 (n4 + 1) c6)).cell
   refine hK.out _ _ (by (try dsimp only); first | exact ⟨pc 0, pc 1, pc 2, pc 3⟩ | exact ⟨pcA 0, pcA 1, pcA 2, pcA 3⟩ | exact ⟨pc6 0, pc6 1, pc6 2, pc6 3⟩) (fun hH => ?_)
   clear hK K
   try simp only [Act.put, pX]
   refine wT (i := 8) (v := ?_) rfl (by kernel_rfl) (by kernel_rfl) (by kernel_rfl) (fun _ _ _ h => h) (Or.inl ⟨by rfl, ?_⟩) (by assumption) ?_
   rotate_left 1
   ·(intro w hSw; (try dsimp only at hSw); go_simp; try with_reducible rfl)
   simp only [Act.put, pX]
   refine wT (i := 9) (v := ?_) rfl (by kernel_rfl) (by kernel_rfl) (by kernel_rfl) (fun _ _ _ h => h) (Or.inl ⟨by rfl, ?_⟩) (by assumption) ?_
   rotate_left 1
   ·(intro w hSw; (try dsimp only at hSw); go_simp; try with_reducible rfl)
   simp only [Act.put, pX]
   refine wR (rs := [10]) (by kernel_rfl) (by simp) ?_
   refine aC rfl (fun K hK => ?_) aN
   go_simp
   refine hK.out _ _ (by (try dsimp only); exact ⟨pc7 0, pc7 1, pc7 2, pc7 3⟩) (fun hH => ?_)
   clear hK K
   try simp only [Act.put, pX]
   refine wD (by kernel_rfl) ?_ _
   go_wp2_with fail
   go_ret
   have hp : putsB d r.x = false := by unfold putsB; rw [HK.out, HDN.out]; rfl
   have hcb := Bc.lt
   have hgw := Bg.lt
   have hSw : ∀ b, S b → b < ((w5.alloc (.cells #[.int .i64 r.x.number, .int .i64 r.x.start, .int .i64 r.x.finish, .slice r.A r.n r.c] 31)).drew).heap.size := fun b hb => Nat.lt_trans (hS b hb) hcb
   have hst : Only (fun b => b = g) w6 (w6.setCell ⟨g, 4, none⟩ (.slice A6 (n4 + 1) c6)) := (Only.refl (fun b => b = g) w6).setCell (p := ⟨g, 4, none⟩) rfl _
   have hz7 : (w6.setCell ⟨g, 4, none⟩ (.slice A6 (n4 + 1) c6)).heap.size = w6.heap.size := by simp [World.setCell]
   have T := MineCW.trouble (A2 := some ⟨gq, off, none⟩) (n2 := 0) (c2 := 0) mc hSw hrs M4.inners M4.apart mr m2 hA4 h6 (fun b hb => (q6 b hb).imp id fun h => ⟨h, (own_top o6 hb).2⟩) (by rw [List.flatMap_append]; exact o6)
   refine ⟨⟨A0, n0, e0, A1, n1, e1, some ⟨gq, off, none⟩, 0, 0, A3, n3, e3, A6, n4 + 1, c6⟩, r.x, [], HQ.out, ret_bool hp.symm, Bg7, ?_, ⟨rfl, Nat.le_refl _, rfl, rfl, Nat.le_succ _, Nat.le_refl _⟩, ?_⟩
   ·rw [HD.out, hp]
    exact (T.only hst (fun b h1 (h2 : b = g) => by
     rcases h1 with h1 | h1
     ·exact hSg b h1 h2
     ·exact absurd (h2 ▸ h1.1) (Nat.not_le_of_lt hgw))).wide fun b h1 => h1.imp id fun h2 => ⟨Nat.le_trans (Nat.le_of_eq HCB.out) (Nat.le_trans (Nat.le_of_lt hcb) h2.1), Nat.lt_of_lt_of_le h2.2 (Nat.le_of_eq hz7.symm)⟩
   ·exact (((ho.mono fun b hb => .inr hb).trans (Only.of_below U)).trans (Only.of_below Kq)).trans ((h6.mono fun b hb => .inl (hA4 b hb).1).trans (hst.mono fun b hb => .inr hb))
  refine aC rfl (fun K hK => ?_) aN
  ·go_simp
   refine hK.out _ _ (by (try dsimp only); first | exact ⟨pc 0, pc 1, pc 2, pc 3⟩ | exact ⟨pcA 0, pcA 1, pcA 2, pcA 3⟩ | exact ⟨pc6 0, pc6 1, pc6 2, pc6 3⟩) (fun hH => ?_)
   clear hK K
   try simp only [Act.put, pX]
   refine wR (rs := [4]) (by kernel_rfl) (by simp) ?_
   refine aC rfl (fun K hK => ?_) aN
   go_simp
   refine hK.out _ _ (by (try dsimp only); first | exact ⟨pc 0, pc 1, pc 2, pc 3⟩ | exact ⟨pcA 0, pcA 1, pcA 2, pcA 3⟩ | exact ⟨pc6 0, pc6 1, pc6 2, pc6 3⟩) (fun hH => ?_)
   clear hK K
   try simp only [Act.put, pX]
   refine wR (rs := [7]) (by kernel_rfl) (by simp) ?_
   refine aC rfl (fun K hK => ?_) aN
   refine step_cat rfl _ _ _ (by rfl) Tryz.underlying25 info_impl_Card rfl (by decide) (by rfl) M4.outer.own (by rfl) (m := 1) (BA.sees (s := 4) (Nat.zero_le _) rfl) (by rfl) (by omega) (by omega) (by decide) (Nat.zero_le _) ?_
   intro A6 c6 w6 o6 h6 b6 q6
   have hA4 : ∀ b, OwnB A4 b → Hue S col 4 b := M4.outer.top
   have Bg6 := Bg.only h6 (fun h => hg (hA4 g h).1)
   have pg6 := Bg6.cell
   have fg6 := Bg6.frozen
   have Bc6 := Bc.only h6 (fun h => Nat.lt_irrefl _ (hS cb (hA4 cb h).1))
   have pc6 := Bc6.cell
   have Bg7 := Bg6.set_ 4 (.slice A6 (n4 + 1) c6)
   have pc7 := (Bc6.far (p := ⟨g, 4, none⟩) (fun (e : cb = g) => by omega) (.slice A6 (n4 + 1) c6)).cell
   refine hK.out _ _ (by (try dsimp only); first | exact ⟨pc 0, pc 1, pc 2, pc 3⟩ | exact ⟨pcA 0, pcA 1, pcA 2, pcA 3⟩ | exact ⟨pc6 0, pc6 1, pc6 2, pc6 3⟩) (fun hH => ?_)
   clear hK K
   try simp only [Act.put, pX]
   refine wT (i := 8) (v := ?_) rfl (by kernel_rfl) (by kernel_rfl) (by kernel_rfl) (fun _ _ _ h => h) (Or.inl ⟨by rfl, ?_⟩) (by assumption) ?_
   rotate_left 1
   ·(intro w hSw; (try dsimp only at hSw); go_simp; try with_reducible rfl)
   simp only [Act.put, pX]
   refine wT (i := 9) (v := ?_) rfl (by kernel_rfl) (by kernel_rfl) (by kernel_rfl) (fun _ _ _ h => h) (Or.inl ⟨by rfl, ?_⟩) (by assumption) ?_
   rotate_left 1
   ·(intro w hSw; (try dsimp only at hSw); go_simp; try with_reducible rfl)
   simp only [Act.put, pX]
   refine wR (rs := [10]) (by kernel_rfl) (by simp) ?_
   refine aC rfl (fun K hK => ?_) aN
   go_simp
   refine hK.out _ _ (by (try dsimp only); exact ⟨pc7 0, pc7 1, pc7 2, pc7 3⟩) (fun hH => ?_)
   clear hK K
   try simp only [Act.put, pX]
   refine wD (by kernel_rfl) ?_ _
   go_wp2_with fail
   go_ret
   have hp : putsB d r.x = false := by unfold putsB; rw [HK.out, HDN.out]; rfl
   have hcb := Bc.lt
   have hgw := Bg.lt
   have hSw : ∀ b, S b → b < ((w5.alloc (.cells #[.int .i64 r.x.number, .int .i64 r.x.start, .int .i64 r.x.finish, .slice r.A r.n r.c] 31)).drew).heap.size := fun b hb => Nat.lt_trans (hS b hb) hcb
   have hst : Only (fun b => b = g) w6 (w6.setCell ⟨g, 4, none⟩ (.slice A6 (n4 + 1) c6)) := (Only.refl (fun b => b = g) w6).setCell (p := ⟨g, 4, none⟩) rfl _
   have hz7 : (w6.setCell ⟨g, 4, none⟩ (.slice A6 (n4 + 1) c6)).heap.size = w6.heap.size := by simp [World.setCell]
   have T := MineCW.trouble (A2 := some ⟨gq, off, none⟩) (n2 := 0) (c2 := 0) mc hSw hrs M4.inners M4.apart mr m2 hA4 h6 (fun b hb => (q6 b hb).imp id fun h => ⟨h, (own_top o6 hb).2⟩) (by rw [List.flatMap_append]; exact o6)
   refine ⟨⟨A0, n0, e0, A1, n1, e1, some ⟨gq, off, none⟩, 0, 0, A3, n3, e3, A6, n4 + 1, c6⟩, r.x, [], HQ.out, ret_bool hp.symm, Bg7, ?_, ⟨rfl, Nat.le_refl _, rfl, rfl, Nat.le_succ _, Nat.le_refl _⟩, ?_⟩
   ·rw [HD.out, hp]
    exact (T.only hst (fun b h1 (h2 : b = g) => by
     rcases h1 with h1 | h1
     ·exact hSg b h1 h2
     ·exact absurd (h2 ▸ h1.1) (Nat.not_le_of_lt hgw))).wide fun b h1 => h1.imp id fun h2 => ⟨Nat.le_trans (Nat.le_of_eq HCB.out) (Nat.le_trans (Nat.le_of_lt hcb) h2.1), Nat.lt_of_lt_of_le h2.2 (Nat.le_of_eq hz7.symm)⟩
   ·exact (((ho.mono fun b hb => .inr hb).trans (Only.of_below U)).trans (Only.of_below Kq)).trans ((h6.mono fun b hb => .inl (hA4 b hb).1).trans (hst.mono fun b hb => .inr hb))
 have hcap2 : 1 < e2 := by omega
 have hcap3 : (1 : Int) ≤ (k : Int) + 1 := by omega
 clear hcap
 go_enter Tryz.func55, Tryz.ntmps55
 go_wp2_with fail
 have ho : Only (fun b => b = g) w (w.setCell ⟨g, 2, none⟩ (.slice (some ⟨gq, off + 4, none⟩) k (e2 - 1))) := (Only.refl (fun b => b = g) w).setCell (p := ⟨g, 2, none⟩) rfl _
 have U : Below (w.setCell ⟨g, 2, none⟩ (.slice (some ⟨gq, off + 4, none⟩) k (e2 - 1))).heap.size (w.setCell ⟨g, 2, none⟩ (.slice (some ⟨gq, off + 4, none⟩) k (e2 - 1))) ((w.setCell ⟨g, 2, none⟩ (.slice (some ⟨gq, off + 4, none⟩) k (e2 - 1))).alloc (.cells #[.int .i64 r.x.number, .int .i64 r.x.start, .int .i64 r.x.finish, .slice r.A r.n r.c] 31)) := (Below.refl _ _).alloc (Nat.le_refl _) _
 have hsz : (w.setCell ⟨g, 2, none⟩ (.slice (some ⟨gq, off + 4, none⟩) k (e2 - 1))).heap.size = w.heap.size := by simp [World.setCell]
 have Bg : Blk ((w.setCell ⟨g, 2, none⟩ (.slice (some ⟨gq, off + 4, none⟩) k (e2 - 1))).alloc (.cells #[.int .i64 r.x.number, .int .i64 r.x.start, .int .i64 r.x.finish, .slice r.A r.n r.c] 31)) g 28 [.slice A0 n0 e0, .slice A1 n1 e1, .slice (some ⟨gq, off + 4, none⟩) k (e2 - 1), .slice A3 n3 e3, .slice A4 n4 e4] := (show Blk (w.setCell ⟨g, 2, none⟩ (.slice (some ⟨gq, off + 4, none⟩) k (e2 - 1))) g 28 [.slice A0 n0 e0, .slice A1 n1 e1, .slice (some ⟨gq, off + 4, none⟩) k (e2 - 1), .slice A3 n3 e3, .slice A4 n4 e4] from hB.set_ 2 (.slice (some ⟨gq, off + 4, none⟩) k (e2 - 1))).alloc _
 have Bc : Blk ((w.setCell ⟨g, 2, none⟩ (.slice (some ⟨gq, off + 4, none⟩) k (e2 - 1))).alloc (.cells #[.int .i64 r.x.number, .int .i64 r.x.start, .int .i64 r.x.finish, .slice r.A r.n r.c] 31)) w.heap.size 31 [.int .i64 r.x.number, .int .i64 r.x.start, .int .i64 r.x.finish, .slice r.A r.n r.c] := Blk.at_ (by simp [World.setCell])
 have hSg : ∀ b, S b → b = g → False := fun b h1 h2 => hg (h2 ▸ h1)
 have mr := (mr.only ho (fun b h1 h2 => hSg b h1.1 h2)).next U
 have m2 := (m2.only ho (fun b h1 h2 => hSg b h1.1.1 h2)).next U
 have mc := (m.only ho hSg).next U
 have x1 := ((m.f1.only ho (fun b h1 h2 => hSg b h1.1 h2)).next U).sees
 have x3 := ((m.f3.only ho (fun b h1 h2 => hSg b h1.1 h2)).next U).sees
 have hn1 : n1 ≤ 1000000 := hf.n1
 have hn3 : n3 ≤ 1000000 := hf.n3
 have hn0 : n0 ≤ 1000000 := hf.n0
 have hn4 : n4 ≤ 1000000 := hf.n4
 clear hsz
 generalize hcb0 : w.heap.size = cb at *
 have HCB := Lib.hid hcb0
 clear hcb0
 generalize ((w.setCell ⟨g, 2, none⟩ (.slice (some ⟨gq, off + 4, none⟩) k (e2 - 1))).alloc (.cells #[.int .i64 r.x.number, .int .i64 r.x.start, .int .i64 r.x.finish, .slice r.A r.n r.c] 31)) = w3 at *
 have b := (Quiet.one w3).below w3.heap.size
 have Kq := Below.refl w3.heap.size w3
 replace Bg := Bg.next b
 replace Bc := Bc.next b
 replace mr := mr.next b
 replace m2 := m2.next b
 replace mc := mc.next b
 replace x1 := x1.next b
 replace x3 := x3.next b
 replace Kq := bel_then Kq b
 clear b
 have pg := Bg.cell
 have pc := Bc.cell
 cases hkn : hasI d.known r.x.number
 ·have HK := Lib.hid hkn
  clear hkn
  refine wp_region_held_drew (S := fun w' => w'.cell? ⟨g, 1, none⟩ = some (.slice A1 n1 e1) ∧ w'.cell? ⟨g, 3, none⟩ = some (.slice A3 n3 e3) ∧ w'.cell? ⟨cb, 0, none⟩ = some (.int .i64 r.x.number)) (by kernel_rfl) (by (try dsimp only); exact ⟨pg 1, pg 3, pc 0⟩) (fun hH => ?_)
  refine wT (i := 0) (v := ?_) rfl (by kernel_rfl) (by kernel_rfl) (by kernel_rfl) (fun _ _ _ h => h) (Or.inl ⟨by rfl, ?_⟩) (by assumption) ?_
  rotate_left 1
  ·(intro w hSw; (try dsimp only at hSw); go_simp; try with_reducible rfl)
  simp only [Act.put, pX]
  refine wT (i := 1) (v := ?_) rfl (by kernel_rfl) (by kernel_rfl) (by kernel_rfl) (fun _ _ _ h => h) (Or.inl ⟨by rfl, ?_⟩) (by assumption) ?_
  rotate_left 1
  ·(intro w hSw; (try dsimp only at hSw); go_simp; try with_reducible rfl)
  simp only [Act.put, pX]
  refine wT (i := 2) (v := ?_) rfl (by kernel_rfl) (by kernel_rfl) (by kernel_rfl) (fun _ _ _ h => h) (Or.inl ⟨by rfl, ?_⟩) (by assumption) ?_
  rotate_left 1
  ·(intro w hSw; (try dsimp only at hSw); go_simp; try with_reducible rfl)
  simp only [Act.put, pX]
  refine wT (i := 3) (v := ?_) rfl (by kernel_rfl) (by kernel_rfl) (by kernel_rfl) (fun _ _ _ h => h) (Or.inl ⟨by rfl, ?_⟩) (by assumption) ?_
  rotate_left 1
  ·(intro w hSw; (try dsimp only at hSw); go_simp; try with_reducible rfl)
  simp only [Act.put, pX]
  refine wT (i := 4) (v := ?_) rfl (by kernel_rfl) (by kernel_rfl) (by kernel_rfl) (fun _ _ _ h => h) (Or.inl ⟨by rfl, ?_⟩) (by assumption) ?_
  rotate_left 1
  ·(intro w hSw; (try dsimp only at hSw); go_simp; try with_reducible rfl)
  simp only [Act.put, pX]
  refine wT (i := 5) (v := ?_) rfl (by kernel_rfl) (by kernel_rfl) (by kernel_rfl) (fun _ _ _ h => h) (Or.inl ⟨by rfl, ?_⟩) (by assumption) ?_
  rotate_left 1
  ·(intro w hSw; (try dsimp only at hSw); go_simp; try with_reducible rfl)
  simp only [Act.put, pX]
  refine wR (rs := [6]) (by kernel_rfl) (by simp) ?_
  refine aC rfl (fun K hK => ?_) aN
  go_simp
  refine (Contains_has A1 n1 e1 d.known r.x.number _ x1 (by omega)).mono ?_
  rw [HK.out]
  rintro e w4 ⟨rfl, qq⟩
  have b := qq.below w3.drew.heap.size
  replace Bg := Bg.next b
  replace Bc := Bc.next b
  replace mr := mr.next b
  replace m2 := m2.next b
  replace mc := mc.next b
  replace x1 := x1.next b
  replace x3 := x3.next b
  replace Kq := bel_then Kq b
  clear b qq pg pc
  have pg := Bg.cell
  have pc := Bc.cell
  go_wp2_with fail
  refine hK.out _ _ (by (try dsimp only); exact ⟨pg 1, pg 3, pc 0⟩) (fun hH => ?_)
  clear hK K
  refine wT (i := 7) (v := ?_) rfl (by kernel_rfl) (by kernel_rfl) (by kernel_rfl) (fun _ _ _ h => h) (Or.inl ⟨by rfl, ?_⟩) (by assumption) ?_
  rotate_left 1
  ·(intro w hSw; (try dsimp only at hSw); go_simp; try with_reducible rfl)
  simp only [Act.put, pX]
  refine wT (i := 8) (v := ?_) rfl (by kernel_rfl) (by kernel_rfl) (by kernel_rfl) (fun _ _ _ h => h) (Or.inl ⟨by rfl, ?_⟩) (by assumption) ?_
  rotate_left 1
  ·(intro w hSw; (try dsimp only at hSw); go_simp; try with_reducible rfl)
  simp only [Act.put, pX]
  refine wT (i := 9) (v := undef) rfl (by kernel_rfl) (by kernel_rfl) (by kernel_rfl) (fun _ _ _ h => h) (Or.inr ⟨by rfl, rfl⟩) (by assumption) ?_
  simp only [Act.put, pX]
  refine wT (i := 10) (v := undef) rfl (by kernel_rfl) (by kernel_rfl) (by kernel_rfl) (fun _ _ _ h => h) (Or.inr ⟨by rfl, rfl⟩) (by assumption) ?_
  simp only [Act.put, pX]
  refine wT (i := 11) (v := undef) rfl (by kernel_rfl) (by kernel_rfl) (by kernel_rfl) (fun _ _ _ h => h) (Or.inr ⟨by rfl, rfl⟩) (by assumption) ?_
  simp only [Act.put, pX]
  refine wT (i := 12) (v := undef) rfl (by kernel_rfl) (by kernel_rfl) (by kernel_rfl) (fun _ _ _ h => h) (Or.inr ⟨by rfl, rfl⟩) (by assumption) ?_
  simp only [Act.put, pX]
  refine wT (i := 13) (v := undef) rfl (by kernel_rfl) (by kernel_rfl) (by kernel_rfl) (fun _ _ _ h => h) (Or.inr ⟨by rfl, rfl⟩) (by assumption) ?_
  simp only [Act.put, pX]
  refine wT (i := 14) (v := undef) rfl (by kernel_rfl) (by kernel_rfl) (by kernel_rfl) (fun _ _ _ h => h) (Or.inr ⟨by rfl, rfl⟩) (by assumption) ?_
  simp only [Act.put, pX]
  refine wT (i := 15) (v := undef) rfl (by kernel_rfl) (by kernel_rfl) (by kernel_rfl) (fun _ _ _ h => h) (Or.inr ⟨by rfl, rfl⟩) (by assumption) ?_
  simp only [Act.put, pX]
  refine wT (i := 16) (v := ?_) rfl (by kernel_rfl) (by kernel_rfl) (by kernel_rfl) (fun _ _ _ h => h) (Or.inl ⟨by rfl, ?_⟩) (by assumption) ?_
  rotate_left 1
  ·(intro w hSw; (try dsimp only at hSw); go_simp; try with_reducible rfl)
  simp only [Act.put, pX]
  refine wD (by kernel_rfl) ?_ _
  go_wp2_with fail
  have U4 : Below w4.heap.size w4 (w4.alloc (.cells #[.int .i64 r.x.number, .int .i64 r.x.start, .int .i64 r.x.finish, .slice r.A r.n r.c] 31)).drew := bel_then ((Below.refl _ _).alloc (Nat.le_refl _) _) ((Quiet.one _).below _)
  have BA : Blk (w4.alloc (.cells #[.int .i64 r.x.number, .int .i64 r.x.start, .int .i64 r.x.finish, .slice r.A r.n r.c] 31)).drew w4.heap.size 31 [.int .i64 r.x.number, .int .i64 r.x.start, .int .i64 r.x.finish, .slice r.A r.n r.c] := (show Blk (w4.alloc (.cells #[.int .i64 r.x.number, .int .i64 r.x.start, .int .i64 r.x.finish, .slice r.A r.n r.c] 31)) w4.heap.size 31 [.int .i64 r.x.number, .int .i64 r.x.start, .int .i64 r.x.finish, .slice r.A r.n r.c] from Blk.at_ rfl).next ((Quiet.one _).below _)
  have pg := Bg.next ((Quiet.one w4).below _) |>.cell
  have pc := Bc.next ((Quiet.one w4).below _) |>.cell
  replace Bg := Bg.next U4
  replace Bc := Bc.next U4
  replace mr := mr.next U4
  replace m2 := m2.next U4
  replace mc := mc.next U4
  replace x1 := x1.next U4
  replace x3 := x3.next U4
  replace Kq := bel_then Kq U4
  have pgA := Bg.cell
  have pcA := Bc.cell
  obtain ⟨rs, hrs, M4⟩ := mc.f4
  dsimp only at M4 hrs
  refine wp_region_held_drew (S := fun w' => w'.cell? ⟨cb, 0, none⟩ = some (.int .i64 r.x.number) ∧ w'.cell? ⟨cb, 1, none⟩ = some (.int .i64 r.x.start) ∧ w'.cell? ⟨cb, 2, none⟩ = some (.int .i64 r.x.finish) ∧ w'.cell? ⟨cb, 3, none⟩ = some (.slice r.A r.n r.c)) (by kernel_rfl) (by (try dsimp only); first | exact ⟨pc 0, pc 1, pc 2, pc 3⟩ | exact ⟨pcA 0, pcA 1, pcA 2, pcA 3⟩ | exact ⟨pc6 0, pc6 1, pc6 2, pc6 3⟩) (fun hH => ?_)
  refine wT (i := 0) (v := ?_) rfl (by kernel_rfl) (by kernel_rfl) (by kernel_rfl) (fun _ _ _ h => h) (Or.inl ⟨by rfl, ?_⟩) (by assumption) ?_
  rotate_left 1
  ·(intro w hSw; (try dsimp only at hSw); go_simp; try with_reducible rfl)
  simp only [Act.put, pX]
  refine wT (i := 1) (v := ?_) rfl (by kernel_rfl) (by kernel_rfl) (by kernel_rfl) (fun _ _ _ h => h) (Or.inl ⟨by rfl, ?_⟩) (by assumption) ?_
  rotate_left 1
  ·(intro w hSw; (try dsimp only at hSw); go_simp; try with_reducible rfl)
  simp only [Act.put, pX]
  refine wT (i := 2) (v := ?_) rfl (by kernel_rfl) (by kernel_rfl) (by kernel_rfl) (fun _ _ _ h => h) (Or.inl ⟨by rfl, ?_⟩) (by assumption) ?_
  rotate_left 1
  ·(intro w hSw; (try dsimp only at hSw); go_simp; try with_reducible rfl)
  simp only [Act.put, pX]
  refine wT (i := 3) (v := ?_) rfl (by kernel_rfl) (by kernel_rfl) (by kernel_rfl) (fun _ _ _ h => h) (Or.inl ⟨by rfl, ?_⟩) (by assumption) ?_
  rotate_left 1
  ·(intro w hSw; (try dsimp only at hSw); go_simp; try with_reducible rfl)
  simp only [Act.put, pX]
  refine wT (i := 5) (v := ?_) rfl (by kernel_rfl) (by kernel_rfl) (by kernel_rfl) (fun _ _ _ h => h) (Or.inl ⟨by rfl, ?_⟩) (by assumption) ?_
  rotate_left 1
  ·(intro w hSw; (try dsimp only at hSw); go_simp; try with_reducible rfl)
  simp only [Act.put, pX]
  refine wR (rs := [4, 6]) (by kernel_rfl) (by simp) ?_
  refine aC rfl (fun K hK => ?_) ?_
  ·go_simp
   refine hK.out _ _ (by (try dsimp only); first | exact ⟨pc 0, pc 1, pc 2, pc 3⟩ | exact ⟨pcA 0, pcA 1, pcA 2, pcA 3⟩ | exact ⟨pc6 0, pc6 1, pc6 2, pc6 3⟩) (fun hH => ?_)
   clear hK K
   try simp only [Act.put, pX]
   refine wR (rs := [6]) (by kernel_rfl) (by simp) ?_
   refine aC rfl (fun K hK => ?_) aN
   go_simp
   refine hK.out _ _ (by (try dsimp only); first | exact ⟨pc 0, pc 1, pc 2, pc 3⟩ | exact ⟨pcA 0, pcA 1, pcA 2, pcA 3⟩ | exact ⟨pc6 0, pc6 1, pc6 2, pc6 3⟩) (fun hH => ?_)
   clear hK K
   try simp only [Act.put, pX]
   refine wR (rs := [7]) (by kernel_rfl) (by simp) ?_
   refine aC rfl (fun K hK => ?_) aN
   refine step_cat rfl _ _ _ (by rfl) Tryz.underlying25 info_impl_Card rfl (by decide) (by rfl) M4.outer.own (by rfl) (m := 1) (BA.sees (s := 4) (Nat.zero_le _) rfl) (by rfl) (by omega) (by omega) (by decide) (Nat.zero_le _) ?_
   intro A6 c6 w6 o6 h6 b6 q6
   have hA4 : ∀ b, OwnB A4 b → Hue S col 4 b := M4.outer.top
   have Bg6 := Bg.only h6 (fun h => hg (hA4 g h).1)
   have pg6 := Bg6.cell
   have fg6 := Bg6.frozen
   have Bc6 := Bc.only h6 (fun h => Nat.lt_irrefl _ (hS cb (hA4 cb h).1))
   have pc6 := Bc6.cell
   have Bg7 := Bg6.set_ 4 (.slice A6 (n4 + 1) c6)
   have pc7 := (Bc6.far (p := ⟨g, 4, none⟩) (fun (e : cb = g) => by omega) (.slice A6 (n4 + 1) c6)).cell
   refine hK.out _ _ (by (try dsimp only); first | exact ⟨pc 0, pc 1, pc 2, pc 3⟩ | exact ⟨pcA 0, pcA 1, pcA 2, pcA 3⟩ | exact ⟨pc6 0, pc6 1, pc6 2, pc6 3⟩) (fun hH => ?_)
   clear hK K
   try simp only [Act.put, pX]
   refine wT (i := 8) (v := ?_) rfl (by kernel_rfl) (by kernel_rfl) (by kernel_rfl) (fun _ _ _ h => h) (Or.inl ⟨by rfl, ?_⟩) (by assumption) ?_
   rotate_left 1
   ·(intro w hSw; (try dsimp only at hSw); go_simp; try with_reducible rfl)
   simp only [Act.put, pX]
   refine wT (i := 9) (v := ?_) rfl (by kernel_rfl) (by kernel_rfl) (by kernel_rfl) (fun _ _ _ h => h) (Or.inl ⟨by rfl, ?_⟩) (by assumption) ?_
   rotate_left 1
   ·(intro w hSw; (try dsimp only at hSw); go_simp; try with_reducible rfl)
   simp only [Act.put, pX]
   refine wR (rs := [10]) (by kernel_rfl) (by simp) ?_
   refine aC rfl (fun K hK => ?_) aN
   go_simp
   refine hK.out _ _ (by (try dsimp only); exact ⟨pc7 0, pc7 1, pc7 2, pc7 3⟩) (fun hH => ?_)
   clear hK K
   try simp only [Act.put, pX]
   refine wD (by kernel_rfl) ?_ _
   go_wp2_with fail
   go_ret
   have hp : putsB d r.x = false := by unfold putsB; rw [HK.out]; rfl
   have hcb := Bc.lt
   have hgw := Bg.lt
   have hSw : ∀ b, S b → b < ((w4.alloc (.cells #[.int .i64 r.x.number, .int .i64 r.x.start, .int .i64 r.x.finish, .slice r.A r.n r.c] 31)).drew).heap.size := fun b hb => Nat.lt_trans (hS b hb) hcb
   have hst : Only (fun b => b = g) w6 (w6.setCell ⟨g, 4, none⟩ (.slice A6 (n4 + 1) c6)) := (Only.refl (fun b => b = g) w6).setCell (p := ⟨g, 4, none⟩) rfl _
   have hz7 : (w6.setCell ⟨g, 4, none⟩ (.slice A6 (n4 + 1) c6)).heap.size = w6.heap.size := by simp [World.setCell]
   have T := MineCW.trouble (A2 := some ⟨gq, off + 4, none⟩) (n2 := k) (c2 := e2 - 1) mc hSw hrs M4.inners M4.apart mr m2 hA4 h6 (fun b hb => (q6 b hb).imp id fun h => ⟨h, (own_top o6 hb).2⟩) (by rw [List.flatMap_append]; exact o6)
   refine ⟨⟨A0, n0, e0, A1, n1, e1, some ⟨gq, off + 4, none⟩, k, e2 - 1, A3, n3, e3, A6, n4 + 1, c6⟩, r.x, q, HQ.out, ret_bool hp.symm, Bg7, ?_, ⟨rfl, by show k ≤ e2 - 1; omega, rfl, rfl, Nat.le_succ _, Nat.le_refl _⟩, ?_⟩
   ·rw [HD.out, hp]
    exact (T.only hst (fun b h1 (h2 : b = g) => by
     rcases h1 with h1 | h1
     ·exact hSg b h1 h2
     ·exact absurd (h2 ▸ h1.1) (Nat.not_le_of_lt hgw))).wide fun b h1 => h1.imp id fun h2 => ⟨Nat.le_trans (Nat.le_of_eq HCB.out) (Nat.le_trans (Nat.le_of_lt hcb) h2.1), Nat.lt_of_lt_of_le h2.2 (Nat.le_of_eq hz7.symm)⟩
   ·exact (((ho.mono fun b hb => .inr hb).trans (Only.of_below U)).trans (Only.of_below Kq)).trans ((h6.mono fun b hb => .inl (hA4 b hb).1).trans (hst.mono fun b hb => .inr hb))
  refine aC rfl (fun K hK => ?_) aN
  ·go_simp
   refine hK.out _ _ (by (try dsimp only); first | exact ⟨pc 0, pc 1, pc 2, pc 3⟩ | exact ⟨pcA 0, pcA 1, pcA 2, pcA 3⟩ | exact ⟨pc6 0, pc6 1, pc6 2, pc6 3⟩) (fun hH => ?_)
   clear hK K
   try simp only [Act.put, pX]
   refine wR (rs := [4]) (by kernel_rfl) (by simp) ?_
   refine aC rfl (fun K hK => ?_) aN
   go_simp
   refine hK.out _ _ (by (try dsimp only); first | exact ⟨pc 0, pc 1, pc 2, pc 3⟩ | exact ⟨pcA 0, pcA 1, pcA 2, pcA 3⟩ | exact ⟨pc6 0, pc6 1, pc6 2, pc6 3⟩) (fun hH => ?_)
   clear hK K
   try simp only [Act.put, pX]
   refine wR (rs := [7]) (by kernel_rfl) (by simp) ?_
   refine aC rfl (fun K hK => ?_) aN
   refine step_cat rfl _ _ _ (by rfl) Tryz.underlying25 info_impl_Card rfl (by decide) (by rfl) M4.outer.own (by rfl) (m := 1) (BA.sees (s := 4) (Nat.zero_le _) rfl) (by rfl) (by omega) (by omega) (by decide) (Nat.zero_le _) ?_
   intro A6 c6 w6 o6 h6 b6 q6
   have hA4 : ∀ b, OwnB A4 b → Hue S col 4 b := M4.outer.top
   have Bg6 := Bg.only h6 (fun h => hg (hA4 g h).1)
   have pg6 := Bg6.cell
   have fg6 := Bg6.frozen
   have Bc6 := Bc.only h6 (fun h => Nat.lt_irrefl _ (hS cb (hA4 cb h).1))
   have pc6 := Bc6.cell
   have Bg7 := Bg6.set_ 4 (.slice A6 (n4 + 1) c6)
   have pc7 := (Bc6.far (p := ⟨g, 4, none⟩) (fun (e : cb = g) => by omega) (.slice A6 (n4 + 1) c6)).cell
   refine hK.out _ _ (by (try dsimp only); first | exact ⟨pc 0, pc 1, pc 2, pc 3⟩ | exact ⟨pcA 0, pcA 1, pcA 2, pcA 3⟩ | exact ⟨pc6 0, pc6 1, pc6 2, pc6 3⟩) (fun hH => ?_)
   clear hK K
   try simp only [Act.put, pX]
   refine wT (i := 8) (v := ?_) rfl (by kernel_rfl) (by kernel_rfl) (by kernel_rfl) (fun _ _ _ h => h) (Or.inl ⟨by rfl, ?_⟩) (by assumption) ?_
   rotate_left 1
   ·(intro w hSw; (try dsimp only at hSw); go_simp; try with_reducible rfl)
   simp only [Act.put, pX]
   refine wT (i := 9) (v := ?_) rfl (by kernel_rfl) (by kernel_rfl) (by kernel_rfl) (fun _ _ _ h => h) (Or.inl ⟨by rfl, ?_⟩) (by assumption) ?_
   rotate_left 1
   ·(intro w hSw; (try dsimp only at hSw); go_simp; try with_reducible rfl)
   simp only [Act.put, pX]
   refine wR (rs := [10]) (by kernel_rfl) (by simp) ?_
   refine aC rfl (fun K hK => ?_) aN
   go_simp
   refine hK.out _ _ (by (try dsimp only); exact ⟨pc7 0, pc7 1, pc7 2, pc7 3⟩) (fun hH => ?_)
   clear hK K
   try simp only [Act.put, pX]
   refine wD (by kernel_rfl) ?_ _
   go_wp2_with fail
   go_ret
   have hp : putsB d r.x = false := by unfold putsB; rw [HK.out]; rfl
   have hcb := Bc.lt
   have hgw := Bg.lt
   have hSw : ∀ b, S b → b < ((w4.alloc (.cells #[.int .i64 r.x.number, .int .i64 r.x.start, .int .i64 r.x.finish, .slice r.A r.n r.c] 31)).drew).heap.size := fun b hb => Nat.lt_trans (hS b hb) hcb
   have hst : Only (fun b => b = g) w6 (w6.setCell ⟨g, 4, none⟩ (.slice A6 (n4 + 1) c6)) := (Only.refl (fun b => b = g) w6).setCell (p := ⟨g, 4, none⟩) rfl _
   have hz7 : (w6.setCell ⟨g, 4, none⟩ (.slice A6 (n4 + 1) c6)).heap.size = w6.heap.size := by simp [World.setCell]
   have T := MineCW.trouble (A2 := some ⟨gq, off + 4, none⟩) (n2 := k) (c2 := e2 - 1) mc hSw hrs M4.inners M4.apart mr m2 hA4 h6 (fun b hb => (q6 b hb).imp id fun h => ⟨h, (own_top o6 hb).2⟩) (by rw [List.flatMap_append]; exact o6)
   refine ⟨⟨A0, n0, e0, A1, n1, e1, some ⟨gq, off + 4, none⟩, k, e2 - 1, A3, n3, e3, A6, n4 + 1, c6⟩, r.x, q, HQ.out, ret_bool hp.symm, Bg7, ?_, ⟨rfl, by show k ≤ e2 - 1; omega, rfl, rfl, Nat.le_succ _, Nat.le_refl _⟩, ?_⟩
   ·rw [HD.out, hp]
    exact (T.only hst (fun b h1 (h2 : b = g) => by
     rcases h1 with h1 | h1
     ·exact hSg b h1 h2
     ·exact absurd (h2 ▸ h1.1) (Nat.not_le_of_lt hgw))).wide fun b h1 => h1.imp id fun h2 => ⟨Nat.le_trans (Nat.le_of_eq HCB.out) (Nat.le_trans (Nat.le_of_lt hcb) h2.1), Nat.lt_of_lt_of_le h2.2 (Nat.le_of_eq hz7.symm)⟩
   ·exact (((ho.mono fun b hb => .inr hb).trans (Only.of_below U)).trans (Only.of_below Kq)).trans ((h6.mono fun b hb => .inl (hA4 b hb).1).trans (hst.mono fun b hb => .inr hb))
 have HK := Lib.hid hkn
 clear hkn
 cases hdn : doneB d.done r.x.number
 ·have HDN := Lib.hid hdn
  clear hdn
  refine wp_region_held_drew (S := fun w' => w'.cell? ⟨g, 1, none⟩ = some (.slice A1 n1 e1) ∧ w'.cell? ⟨g, 3, none⟩ = some (.slice A3 n3 e3) ∧ w'.cell? ⟨cb, 0, none⟩ = some (.int .i64 r.x.number)) (by kernel_rfl) (by (try dsimp only); exact ⟨pg 1, pg 3, pc 0⟩) (fun hH => ?_)
  refine wT (i := 0) (v := ?_) rfl (by kernel_rfl) (by kernel_rfl) (by kernel_rfl) (fun _ _ _ h => h) (Or.inl ⟨by rfl, ?_⟩) (by assumption) ?_
  rotate_left 1
  ·(intro w hSw; (try dsimp only at hSw); go_simp; try with_reducible rfl)
  simp only [Act.put, pX]
  refine wT (i := 1) (v := ?_) rfl (by kernel_rfl) (by kernel_rfl) (by kernel_rfl) (fun _ _ _ h => h) (Or.inl ⟨by rfl, ?_⟩) (by assumption) ?_
  rotate_left 1
  ·(intro w hSw; (try dsimp only at hSw); go_simp; try with_reducible rfl)
  simp only [Act.put, pX]
  refine wT (i := 2) (v := ?_) rfl (by kernel_rfl) (by kernel_rfl) (by kernel_rfl) (fun _ _ _ h => h) (Or.inl ⟨by rfl, ?_⟩) (by assumption) ?_
  rotate_left 1
  ·(intro w hSw; (try dsimp only at hSw); go_simp; try with_reducible rfl)
  simp only [Act.put, pX]
  refine wT (i := 3) (v := ?_) rfl (by kernel_rfl) (by kernel_rfl) (by kernel_rfl) (fun _ _ _ h => h) (Or.inl ⟨by rfl, ?_⟩) (by assumption) ?_
  rotate_left 1
  ·(intro w hSw; (try dsimp only at hSw); go_simp; try with_reducible rfl)
  simp only [Act.put, pX]
  refine wT (i := 4) (v := ?_) rfl (by kernel_rfl) (by kernel_rfl) (by kernel_rfl) (fun _ _ _ h => h) (Or.inl ⟨by rfl, ?_⟩) (by assumption) ?_
  rotate_left 1
  ·(intro w hSw; (try dsimp only at hSw); go_simp; try with_reducible rfl)
  simp only [Act.put, pX]
  refine wT (i := 5) (v := ?_) rfl (by kernel_rfl) (by kernel_rfl) (by kernel_rfl) (fun _ _ _ h => h) (Or.inl ⟨by rfl, ?_⟩) (by assumption) ?_
  rotate_left 1
  ·(intro w hSw; (try dsimp only at hSw); go_simp; try with_reducible rfl)
  simp only [Act.put, pX]
  refine wR (rs := [6]) (by kernel_rfl) (by simp) ?_
  refine aC rfl (fun K hK => ?_) aN
  go_simp
  refine (Contains_has A1 n1 e1 d.known r.x.number _ x1 (by omega)).mono ?_
  rw [HK.out]
  rintro e w4 ⟨rfl, qq⟩
  have b := qq.below w3.drew.heap.size
  replace Bg := Bg.next b
  replace Bc := Bc.next b
  replace mr := mr.next b
  replace m2 := m2.next b
  replace mc := mc.next b
  replace x1 := x1.next b
  replace x3 := x3.next b
  replace Kq := bel_then Kq b
  clear b qq pg pc
  have pg := Bg.cell
  have pc := Bc.cell
  go_wp2_with fail
  refine hK.out _ _ (by (try dsimp only); exact ⟨pg 1, pg 3, pc 0⟩) (fun hH => ?_)
  clear hK K
  refine wT (i := 7) (v := ?_) rfl (by kernel_rfl) (by kernel_rfl) (by kernel_rfl) (fun _ _ _ h => h) (Or.inl ⟨by rfl, ?_⟩) (by assumption) ?_
  rotate_left 1
  ·(intro w hSw; (try dsimp only at hSw); go_simp; try with_reducible rfl)
  simp only [Act.put, pX]
  refine wT (i := 8) (v := ?_) rfl (by kernel_rfl) (by kernel_rfl) (by kernel_rfl) (fun _ _ _ h => h) (Or.inl ⟨by rfl, ?_⟩) (by assumption) ?_
  rotate_left 1
  ·(intro w hSw; (try dsimp only at hSw); go_simp; try with_reducible rfl)
  simp only [Act.put, pX]
  refine wT (i := 9) (v := ?_) rfl (by kernel_rfl) (by kernel_rfl) (by kernel_rfl) (fun _ _ _ h => h) (Or.inl ⟨by rfl, ?_⟩) (by assumption) ?_
  rotate_left 1
  ·(intro w hSw; (try dsimp only at hSw); go_simp; try with_reducible rfl)
  simp only [Act.put, pX]
  refine wT (i := 10) (v := ?_) rfl (by kernel_rfl) (by kernel_rfl) (by kernel_rfl) (fun _ _ _ h => h) (Or.inl ⟨by rfl, ?_⟩) (by assumption) ?_
  rotate_left 1
  ·(intro w hSw; (try dsimp only at hSw); go_simp; try with_reducible rfl)
  simp only [Act.put, pX]
  refine wT (i := 11) (v := ?_) rfl (by kernel_rfl) (by kernel_rfl) (by kernel_rfl) (fun _ _ _ h => h) (Or.inl ⟨by rfl, ?_⟩) (by assumption) ?_
  rotate_left 1
  ·(intro w hSw; (try dsimp only at hSw); go_simp; try with_reducible rfl)
  simp only [Act.put, pX]
  refine wT (i := 12) (v := ?_) rfl (by kernel_rfl) (by kernel_rfl) (by kernel_rfl) (fun _ _ _ h => h) (Or.inl ⟨by rfl, ?_⟩) (by assumption) ?_
  rotate_left 1
  ·(intro w hSw; (try dsimp only at hSw); go_simp; try with_reducible rfl)
  simp only [Act.put, pX]
  refine wT (i := 13) (v := ?_) rfl (by kernel_rfl) (by kernel_rfl) (by kernel_rfl) (fun _ _ _ h => h) (Or.inl ⟨by rfl, ?_⟩) (by assumption) ?_
  rotate_left 1
  ·(intro w hSw; (try dsimp only at hSw); go_simp; try with_reducible rfl)
  simp only [Act.put, pX]
  refine wT (i := 14) (v := ?_) rfl (by kernel_rfl) (by kernel_rfl) (by kernel_rfl) (fun _ _ _ h => h) (Or.inl ⟨by rfl, ?_⟩) (by assumption) ?_
  rotate_left 1
  ·(intro w hSw; (try dsimp only at hSw); go_simp; try with_reducible rfl)
  simp only [Act.put, pX]
  refine wR (rs := [15]) (by kernel_rfl) (by simp) ?_
  refine aC rfl (fun K hK => ?_) aN
  go_simp
  refine (isDone_any A3 n3 e3 d.done r.x.number _ x3 (by omega)).mono ?_
  rw [HDN.out]
  rintro e w5 ⟨rfl, b⟩
  replace Bg := Bg.next b
  replace Bc := Bc.next b
  replace mr := mr.next b
  replace m2 := m2.next b
  replace mc := mc.next b
  replace x1 := x1.next b
  replace x3 := x3.next b
  replace Kq := bel_then Kq b
  clear b pg pc
  have pg := Bg.cell
  have pc := Bc.cell
  go_wp2_with fail
  refine hK.out _ _ (by (try dsimp only); exact ⟨pg 1, pg 3, pc 0⟩) (fun hH => ?_)
  clear hK K
  refine wT (i := 16) (v := ?_) rfl (by kernel_rfl) (by kernel_rfl) (by kernel_rfl) (fun _ _ _ h => h) (Or.inl ⟨by rfl, ?_⟩) (by assumption) ?_
  rotate_left 1
  ·(intro w hSw; (try dsimp only at hSw); go_simp; try with_reducible rfl)
  simp only [Act.put, pX]
  refine wD (by kernel_rfl) ?_ _
  go_wp2_with fail
  have hrc : r.n ≤ r.c := own_cap mr.own
  have hin : r.x ∈ d.queue := by rw [HQ.out]; exact List.mem_cons_self
  have hrn : r.n ≤ 1000000 := by
   have h1 := mr.sees.count (by decide) (fun _ => rfl)
   have h2 := hf.k2 _ hin
   unfold Card.cnt at h2
   omega
  obtain ⟨tm, htm⟩ : ∃ tm, r.x.finish - r.x.start = tm := ⟨_, rfl⟩
  have hwm : IntKind.i64.wrap tm = tm := by
   have h1 := hfin _ hin
   exact IntWalk.i64_in _ (by omega)
  clear hin
  have b := (Quiet.one w5).below w5.heap.size
  replace Bg := Bg.next b
  replace Bc := Bc.next b
  replace mr := mr.next b
  replace m2 := m2.next b
  replace mc := mc.next b
  replace x1 := x1.next b
  replace x3 := x3.next b
  replace Kq := bel_then Kq b
  clear b
  have pg := Bg.cell
  have pc := Bc.cell
  refine wp_region_held_drew (S := fun w' => w'.cell? ⟨g, 0, none⟩ = some (.slice A0 n0 e0) ∧ w'.cell? ⟨cb, 0, none⟩ = some (.int .i64 r.x.number) ∧ w'.cell? ⟨cb, 1, none⟩ = some (.int .i64 r.x.start) ∧ w'.cell? ⟨cb, 2, none⟩ = some (.int .i64 r.x.finish) ∧ w'.cell? ⟨cb, 3, none⟩ = some (.slice r.A r.n r.c)) (by kernel_rfl) (by (try dsimp only); first | exact ⟨pg 0, pc 0, pc 1, pc 2, pc 3⟩ | exact ⟨pgB 0, pcB 0, pcB 1, pcB 2, pcB 3⟩ | exact ⟨pg6 0, pc6 0, pc6 1, pc6 2, pc6 3⟩) (fun hH => ?_)
  refine wT (i := 0) (v := ?_) rfl (by kernel_rfl) (by kernel_rfl) (by kernel_rfl) (fun _ _ _ h => h) (Or.inl ⟨by rfl, ?_⟩) (by assumption) ?_
  rotate_left 1
  ·(intro w hSw; (try dsimp only at hSw); go_simp; try with_reducible rfl)
  simp only [Act.put, pX]
  refine wT (i := 1) (v := ?_) rfl (by kernel_rfl) (by kernel_rfl) (by kernel_rfl) (fun _ _ _ h => h) (Or.inl ⟨by rfl, ?_⟩) (by assumption) ?_
  rotate_left 1
  ·(intro w hSw; (try dsimp only at hSw); go_simp; try with_reducible rfl)
  simp only [Act.put, pX]
  refine wT (i := 2) (v := ?_) rfl (by kernel_rfl) (by kernel_rfl) (by kernel_rfl) (fun _ _ _ h => h) (Or.inl ⟨by rfl, ?_⟩) (by assumption) ?_
  rotate_left 1
  ·(intro w hSw; (try dsimp only at hSw); go_simp; try with_reducible rfl)
  simp only [Act.put, pX]
  refine wT (i := 3) (v := ?_) rfl (by kernel_rfl) (by kernel_rfl) (by kernel_rfl) (fun _ _ _ h => h) (Or.inl ⟨by rfl, ?_⟩) (by assumption) ?_
  rotate_left 1
  ·(intro w hSw; (try dsimp only at hSw); go_simp; try with_reducible rfl)
  simp only [Act.put, pX]
  refine wT (i := 5) (v := ?_) rfl (by kernel_rfl) (by kernel_rfl) (by kernel_rfl) (fun _ _ _ h => h) (Or.inl ⟨by rfl, ?_⟩) (by assumption) ?_
  rotate_left 1
  ·(intro w hSw; (try dsimp only at hSw); go_simp; try with_reducible rfl)
  simp only [Act.put, pX]
  refine wT (i := 6) (v := ?_) rfl (by kernel_rfl) (by kernel_rfl) (by kernel_rfl) (fun _ _ _ h => h) (Or.inl ⟨by rfl, ?_⟩) (by assumption) ?_
  rotate_left 1
  ·(intro w hSw; (try dsimp only at hSw); go_simp; try with_reducible rfl)
  simp only [Act.put, pX]
  refine wT (i := 7) (v := ?_) rfl (by kernel_rfl) (by kernel_rfl) (by kernel_rfl) (fun _ _ _ h => h) (Or.inl ⟨by rfl, ?_⟩) (by assumption) ?_
  rotate_left 1
  ·(intro w hSw; (try dsimp only at hSw); go_simp; try with_reducible rfl)
  simp only [Act.put, pX]
  refine wT (i := 8) (v := ?_) rfl (by kernel_rfl) (by kernel_rfl) (by kernel_rfl) (fun _ _ _ h => h) (Or.inl ⟨by rfl, ?_⟩) (by assumption) ?_
  rotate_left 1
  ·(intro w hSw; (try dsimp only at hSw); go_simp; try with_reducible rfl)
  simp only [Act.put, pX]
  refine wT (i := 9) (v := ?_) rfl (by kernel_rfl) (by kernel_rfl) (by kernel_rfl) (fun _ _ _ h => h) (Or.inl ⟨by rfl, ?_⟩) (by assumption) ?_
  rotate_left 1
  ·(intro w hSw; (try dsimp only at hSw); go_simp; try with_reducible rfl)
  simp only [Act.put, pX]
  refine wT (i := 10) (v := ?_) rfl (by kernel_rfl) (by kernel_rfl) (by kernel_rfl) (fun _ _ _ h => h) (Or.inl ⟨by rfl, ?_⟩) (by assumption) ?_
  rotate_left 1
  ·(intro w hSw; (try dsimp only at hSw); go_simp; try with_reducible rfl)
  simp only [Act.put, pX]
  refine wT (i := 11) (v := ?_) rfl (by kernel_rfl) (by kernel_rfl) (by kernel_rfl) (fun _ _ _ h => h) (Or.inl ⟨by rfl, ?_⟩) (by assumption) ?_
  rotate_left 1
  ·(intro w hSw; (try dsimp only at hSw); go_simp; try with_reducible rfl)
  simp only [Act.put, pX]
  refine wT (i := 14) (v := ?_) rfl (by kernel_rfl) (by kernel_rfl) (by kernel_rfl) (fun _ _ _ h => h) (Or.inl ⟨by rfl, ?_⟩) (by assumption) ?_
  rotate_left 1
  ·(intro w hSw; (try dsimp only at hSw); go_simp; try with_reducible rfl)
  simp only [Act.put, pX]
  refine wT (i := 15) (v := ?_) rfl (by kernel_rfl) (by kernel_rfl) (by kernel_rfl) (fun _ _ _ h => h) (Or.inl ⟨by rfl, ?_⟩) (by assumption) ?_
  rotate_left 1
  ·(intro w hSw; (try dsimp only at hSw); go_simp; try with_reducible rfl)
  simp only [Act.put, pX]
  refine wT (i := 16) (v := ?_) rfl (by kernel_rfl) (by kernel_rfl) (by kernel_rfl) (fun _ _ _ h => h) (Or.inl ⟨by rfl, ?_⟩) (by assumption) ?_
  rotate_left 1
  ·(intro w hSw; (try dsimp only at hSw); go_simp; try with_reducible rfl)
  simp only [Act.put, pX]
  refine wT (i := 17) (v := ?_) rfl (by kernel_rfl) (by kernel_rfl) (by kernel_rfl) (fun _ _ _ h => h) (Or.inl ⟨by rfl, ?_⟩) (by assumption) ?_
  rotate_left 1
  ·(intro w hSw; (try dsimp only at hSw); go_simp; try with_reducible rfl)
  simp only [Act.put, pX]
  refine wT (i := 18) (v := ?_) rfl (by kernel_rfl) (by kernel_rfl) (by kernel_rfl) (fun _ _ _ h => h) (Or.inl ⟨by rfl, ?_⟩) (by assumption) ?_
  rotate_left 1
  ·(intro w hSw; (try dsimp only at hSw); go_simp; try with_reducible rfl)
  simp only [Act.put, pX]
  refine wR (rs := [4, 12]) (by kernel_rfl) (by simp) ?_
  refine aC rfl (fun K hK => ?_) ?_
  ·go_simp
   refine hK.out _ _ (by (try dsimp only); first | exact ⟨pg 0, pc 0, pc 1, pc 2, pc 3⟩ | exact ⟨pgB 0, pcB 0, pcB 1, pcB 2, pcB 3⟩ | exact ⟨pg6 0, pc6 0, pc6 1, pc6 2, pc6 3⟩) (fun hH => ?_)
   clear hK K
   try simp only [Act.put, pX]
   refine wR (rs := [12]) (by kernel_rfl) (by simp) ?_
   refine aC rfl (fun K hK => ?_) aN
   go_simp
   refine (missingCodes_any r.A r.n r.c r.x A0 n0 e0 d.codes _ mr.sees (by omega) hrc (mc.f0.sees) (by omega)).mono ?_
   rintro e w6 ⟨AM, cM, rfl, oM, b⟩
   clear oM pg pc
   replace Bg := Bg.next b
   replace Bc := Bc.next b
   replace mr := mr.next b
   replace m2 := m2.next b
   replace mc := mc.next b
   replace x1 := x1.next b
   replace x3 := x3.next b
   replace Kq := bel_then Kq b
   clear b
   have pg := Bg.cell
   have pc := Bc.cell
   have UB : Below w6.heap.size w6 (w6.alloc (.cells #[.int .i64 r.x.number, .int .i64 (((missL r.x d.codes).length : Nat) : Int), .int .i64 tm] 41)) := (Below.refl _ _).alloc (Nat.le_refl _) _
   have BR : Blk (w6.alloc (.cells #[.int .i64 r.x.number, .int .i64 (((missL r.x d.codes).length : Nat) : Int), .int .i64 tm] 41)) w6.heap.size 41 [.int .i64 r.x.number, .int .i64 (((missL r.x d.codes).length : Nat) : Int), .int .i64 tm] := Blk.at_ rfl
   have BgB := Bg.next UB
   have BcB := Bc.next UB
   have mcB := mc.next UB
   have mrB := mr.next UB
   have m2B := m2.next UB
   have KqB := bel_then Kq UB
   have pgB := BgB.cell
   have pcB := BcB.cell
   go_wp2_with fail
   refine hK.out _ _ (by (try dsimp only); first | exact ⟨pg 0, pc 0, pc 1, pc 2, pc 3⟩ | exact ⟨pgB 0, pcB 0, pcB 1, pcB 2, pcB 3⟩ | exact ⟨pg6 0, pc6 0, pc6 1, pc6 2, pc6 3⟩) (fun hH => ?_)
   clear hK K
   refine wT (i := 13) (v := ?_) rfl (by kernel_rfl) (by kernel_rfl) (by kernel_rfl) (fun _ _ _ h => h) (Or.inl ⟨by rfl, ?_⟩) (by assumption) ?_
   rotate_left 1
   ·(intro w hSw; (try dsimp only at hSw); go_simp; try with_reducible rfl)
   simp only [Act.put, pX]
   refine wT (i := 19) (v := ?_) rfl (by kernel_rfl) (by kernel_rfl) (by kernel_rfl) (fun _ _ _ h => h) (Or.inl ⟨by rfl, ?_⟩) (by assumption) ?_
   rotate_left 1
   ·(intro w hSw; (try dsimp only at hSw); go_simp; try with_reducible rfl)
   simp only [Act.put, pX]
   refine wR (rs := [20]) (by kernel_rfl) (by simp) ?_
   refine aC rfl (fun K hK => ?_) aN
   go_simp
   refine hK.out _ _ (by (try dsimp only); first | exact ⟨pg 0, pc 0, pc 1, pc 2, pc 3⟩ | exact ⟨pgB 0, pcB 0, pcB 1, pcB 2, pcB 3⟩ | exact ⟨pg6 0, pc6 0, pc6 1, pc6 2, pc6 3⟩) (fun hH => ?_)
   clear hK K
   try simp only [Act.put, pX]
   refine wR (rs := [21]) (by kernel_rfl) (by simp) ?_
   refine aC rfl (fun K hK => ?_) aN
   refine step_cat rfl _ _ _ (by rfl) Tryz.underlying26 info_impl_DeskRow rfl (by decide) (by rfl) mcB.f3.own (by rfl) (m := 1) (BR.sees (s := 3) (Nat.zero_le _) rfl) (by rfl) (show n3 ≤ 1000000000 by omega) (by omega) (by decide) (Nat.zero_le _) ?_
   intro A6 c6 w7 o6 h6 b6 q6
   have hA3 : ∀ b, OwnB A3 b → Hue S col 3 b := mcB.f3.top
   have Bg6 := BgB.only h6 (fun h => hg (hA3 g h).1)
   have pg6 := Bg6.cell
   have fg6 := Bg6.frozen
   have Bc6 := BcB.only h6 (fun h => Nat.lt_irrefl _ (hS cb (hA3 cb h).1))
   have pc6 := Bc6.cell
   have Bg7 := Bg6.set_ 3 (.slice A6 (n3 + 1) c6)
   have pc7 := (Bc6.far (p := ⟨g, 3, none⟩) (fun (e : cb = g) => by omega) (.slice A6 (n3 + 1) c6)).cell
   have pg7 := Bg7.cell
   refine hK.out _ _ (by (try dsimp only); first | exact ⟨pg 0, pc 0, pc 1, pc 2, pc 3⟩ | exact ⟨pgB 0, pcB 0, pcB 1, pcB 2, pcB 3⟩ | exact ⟨pg6 0, pc6 0, pc6 1, pc6 2, pc6 3⟩) (fun hH => ?_)
   clear hK K
   try simp only [Act.put, pX]
   refine wT (i := 22) (v := ?_) rfl (by kernel_rfl) (by kernel_rfl) (by kernel_rfl) (fun _ _ _ h => h) (Or.inl ⟨by rfl, ?_⟩) (by assumption) ?_
   rotate_left 1
   ·(intro w hSw; (try dsimp only at hSw); go_simp; try with_reducible rfl)
   simp only [Act.put, pX]
   refine wT (i := 23) (v := ?_) rfl (by kernel_rfl) (by kernel_rfl) (by kernel_rfl) (fun _ _ _ h => h) (Or.inl ⟨by rfl, ?_⟩) (by assumption) ?_
   rotate_left 1
   ·(intro w hSw; (try dsimp only at hSw); go_simp; try with_reducible rfl)
   simp only [Act.put, pX]
   refine wR (rs := [24]) (by kernel_rfl) (by simp) ?_
   refine aC rfl (fun K hK => ?_) aN
   go_simp
   refine hK.out _ _ (by (try dsimp only); exact ⟨pg7 0, pc7 0, pc7 1, pc7 2, pc7 3⟩) (fun hH => ?_)
   clear hK K
   try simp only [Act.put, pX]
   refine wD (by kernel_rfl) ?_ _
   go_wp2_with fail
   go_ret
   have hp : putsB d r.x = true := by unfold putsB; rw [HK.out, HDN.out]; rfl
   have hcb := BcB.lt
   have hgw := BgB.lt
   have hSw : ∀ b, S b → b < ((w6.alloc (.cells #[.int .i64 r.x.number, .int .i64 (((missL r.x d.codes).length : Nat) : Int), .int .i64 tm] 41))).heap.size := fun b hb => Nat.lt_trans (hS b hb) hcb
   have hst : Only (fun b => b = g) w7 (w7.setCell ⟨g, 3, none⟩ (.slice A6 (n3 + 1) c6)) := (Only.refl (fun b => b = g) w7).setCell (p := ⟨g, 3, none⟩) rfl _
   have hz7 : (w7.setCell ⟨g, 3, none⟩ (.slice A6 (n3 + 1) c6)).heap.size = w7.heap.size := by simp [World.setCell]
   have hro : (rowOf d r.x).enc = [.int .i64 r.x.number, .int .i64 (((missL r.x d.codes).length : Nat) : Int), .int .i64 tm] := by unfold rowOf; rw [htm]; rfl
   have T := MineCW.done (A2 := some ⟨gq, off + 4, none⟩) (n2 := k) (c2 := e2 - 1) (ds := d.done ++ [rowOf d r.x]) mcB hSw m2B (h6.mono hA3) ⟨by rw [List.flatMap_append, List.flatMap_singleton, hro]; exact o6, fun b hb => (q6 b hb).imp (hA3 b) fun h => ⟨h, (own_top o6 hb).2⟩⟩
   refine ⟨⟨A0, n0, e0, A1, n1, e1, some ⟨gq, off + 4, none⟩, k, e2 - 1, A6, n3 + 1, c6, A4, n4, e4⟩, r.x, q, HQ.out, ret_bool hp.symm, Bg7, ?_, ⟨rfl, by show k ≤ e2 - 1; omega, rfl, rfl, Nat.le_refl _, Nat.le_succ _⟩, ?_⟩
   ·rw [HD.out, hp]
    exact (T.only hst (fun b h1 (h2 : b = g) => by
     rcases h1 with h1 | h1
     ·exact hSg b h1 h2
     ·exact absurd (h2 ▸ h1.1) (Nat.not_le_of_lt hgw))).wide fun b h1 => h1.imp id fun h2 => ⟨Nat.le_trans (Nat.le_of_eq HCB.out) (Nat.le_trans (Nat.le_of_lt hcb) h2.1), Nat.lt_of_lt_of_le h2.2 (Nat.le_of_eq hz7.symm)⟩
   ·exact (((ho.mono fun b hb => .inr hb).trans (Only.of_below U)).trans (Only.of_below KqB)).trans ((h6.mono fun b hb => .inl (hA3 b hb).1).trans (hst.mono fun b hb => .inr hb))
  refine aC rfl (fun K hK => ?_) aN
  ·go_simp
   refine (missingCodes_any r.A r.n r.c r.x A0 n0 e0 d.codes _ mr.sees (by omega) hrc (mc.f0.sees) (by omega)).mono ?_
   rintro e w6 ⟨AM, cM, rfl, oM, b⟩
   clear oM pg pc
   replace Bg := Bg.next b
   replace Bc := Bc.next b
   replace mr := mr.next b
   replace m2 := m2.next b
   replace mc := mc.next b
   replace x1 := x1.next b
   replace x3 := x3.next b
   replace Kq := bel_then Kq b
   clear b
   have pg := Bg.cell
   have pc := Bc.cell
   have UB : Below w6.heap.size w6 (w6.alloc (.cells #[.int .i64 r.x.number, .int .i64 (((missL r.x d.codes).length : Nat) : Int), .int .i64 tm] 41)) := (Below.refl _ _).alloc (Nat.le_refl _) _
   have BR : Blk (w6.alloc (.cells #[.int .i64 r.x.number, .int .i64 (((missL r.x d.codes).length : Nat) : Int), .int .i64 tm] 41)) w6.heap.size 41 [.int .i64 r.x.number, .int .i64 (((missL r.x d.codes).length : Nat) : Int), .int .i64 tm] := Blk.at_ rfl
   have BgB := Bg.next UB
   have BcB := Bc.next UB
   have mcB := mc.next UB
   have mrB := mr.next UB
   have m2B := m2.next UB
   have KqB := bel_then Kq UB
   have pgB := BgB.cell
   have pcB := BcB.cell
   go_wp2_with fail
   refine hK.out _ _ (by (try dsimp only); first | exact ⟨pg 0, pc 0, pc 1, pc 2, pc 3⟩ | exact ⟨pgB 0, pcB 0, pcB 1, pcB 2, pcB 3⟩ | exact ⟨pg6 0, pc6 0, pc6 1, pc6 2, pc6 3⟩) (fun hH => ?_)
   clear hK K
   refine wT (i := 13) (v := ?_) rfl (by kernel_rfl) (by kernel_rfl) (by kernel_rfl) (fun _ _ _ h => h) (Or.inl ⟨by rfl, ?_⟩) (by assumption) ?_
   rotate_left 1
   ·(intro w hSw; (try dsimp only at hSw); go_simp; try with_reducible rfl)
   simp only [Act.put, pX]
   refine wT (i := 19) (v := ?_) rfl (by kernel_rfl) (by kernel_rfl) (by kernel_rfl) (fun _ _ _ h => h) (Or.inl ⟨by rfl, ?_⟩) (by assumption) ?_
   rotate_left 1
   ·(intro w hSw; (try dsimp only at hSw); go_simp; try with_reducible rfl)
   simp only [Act.put, pX]
   refine wR (rs := [4, 20]) (by kernel_rfl) (by simp) ?_
   refine aC rfl (fun K hK => ?_) ?_
   ·go_simp
    refine hK.out _ _ (by (try dsimp only); first | exact ⟨pg 0, pc 0, pc 1, pc 2, pc 3⟩ | exact ⟨pgB 0, pcB 0, pcB 1, pcB 2, pcB 3⟩ | exact ⟨pg6 0, pc6 0, pc6 1, pc6 2, pc6 3⟩) (fun hH => ?_)
    clear hK K
    try simp only [Act.put, pX]
    refine wR (rs := [20]) (by kernel_rfl) (by simp) ?_
    refine aC rfl (fun K hK => ?_) aN
    go_simp
    refine hK.out _ _ (by (try dsimp only); first | exact ⟨pg 0, pc 0, pc 1, pc 2, pc 3⟩ | exact ⟨pgB 0, pcB 0, pcB 1, pcB 2, pcB 3⟩ | exact ⟨pg6 0, pc6 0, pc6 1, pc6 2, pc6 3⟩) (fun hH => ?_)
    clear hK K
    try simp only [Act.put, pX]
    refine wR (rs := [21]) (by kernel_rfl) (by simp) ?_
    refine aC rfl (fun K hK => ?_) aN
    refine step_cat rfl _ _ _ (by rfl) Tryz.underlying26 info_impl_DeskRow rfl (by decide) (by rfl) mcB.f3.own (by rfl) (m := 1) (BR.sees (s := 3) (Nat.zero_le _) rfl) (by rfl) (show n3 ≤ 1000000000 by omega) (by omega) (by decide) (Nat.zero_le _) ?_
    intro A6 c6 w7 o6 h6 b6 q6
    have hA3 : ∀ b, OwnB A3 b → Hue S col 3 b := mcB.f3.top
    have Bg6 := BgB.only h6 (fun h => hg (hA3 g h).1)
    have pg6 := Bg6.cell
    have fg6 := Bg6.frozen
    have Bc6 := BcB.only h6 (fun h => Nat.lt_irrefl _ (hS cb (hA3 cb h).1))
    have pc6 := Bc6.cell
    have Bg7 := Bg6.set_ 3 (.slice A6 (n3 + 1) c6)
    have pc7 := (Bc6.far (p := ⟨g, 3, none⟩) (fun (e : cb = g) => by omega) (.slice A6 (n3 + 1) c6)).cell
    have pg7 := Bg7.cell
    refine hK.out _ _ (by (try dsimp only); first | exact ⟨pg 0, pc 0, pc 1, pc 2, pc 3⟩ | exact ⟨pgB 0, pcB 0, pcB 1, pcB 2, pcB 3⟩ | exact ⟨pg6 0, pc6 0, pc6 1, pc6 2, pc6 3⟩) (fun hH => ?_)
    clear hK K
    try simp only [Act.put, pX]
    refine wT (i := 22) (v := ?_) rfl (by kernel_rfl) (by kernel_rfl) (by kernel_rfl) (fun _ _ _ h => h) (Or.inl ⟨by rfl, ?_⟩) (by assumption) ?_
    rotate_left 1
    ·(intro w hSw; (try dsimp only at hSw); go_simp; try with_reducible rfl)
    simp only [Act.put, pX]
    refine wT (i := 23) (v := ?_) rfl (by kernel_rfl) (by kernel_rfl) (by kernel_rfl) (fun _ _ _ h => h) (Or.inl ⟨by rfl, ?_⟩) (by assumption) ?_
    rotate_left 1
    ·(intro w hSw; (try dsimp only at hSw); go_simp; try with_reducible rfl)
    simp only [Act.put, pX]
    refine wR (rs := [24]) (by kernel_rfl) (by simp) ?_
    refine aC rfl (fun K hK => ?_) aN
    go_simp
    refine hK.out _ _ (by (try dsimp only); exact ⟨pg7 0, pc7 0, pc7 1, pc7 2, pc7 3⟩) (fun hH => ?_)
    clear hK K
    try simp only [Act.put, pX]
    refine wD (by kernel_rfl) ?_ _
    go_wp2_with fail
    go_ret
    have hp : putsB d r.x = true := by unfold putsB; rw [HK.out, HDN.out]; rfl
    have hcb := BcB.lt
    have hgw := BgB.lt
    have hSw : ∀ b, S b → b < ((w6.alloc (.cells #[.int .i64 r.x.number, .int .i64 (((missL r.x d.codes).length : Nat) : Int), .int .i64 tm] 41))).heap.size := fun b hb => Nat.lt_trans (hS b hb) hcb
    have hst : Only (fun b => b = g) w7 (w7.setCell ⟨g, 3, none⟩ (.slice A6 (n3 + 1) c6)) := (Only.refl (fun b => b = g) w7).setCell (p := ⟨g, 3, none⟩) rfl _
    have hz7 : (w7.setCell ⟨g, 3, none⟩ (.slice A6 (n3 + 1) c6)).heap.size = w7.heap.size := by simp [World.setCell]
    have hro : (rowOf d r.x).enc = [.int .i64 r.x.number, .int .i64 (((missL r.x d.codes).length : Nat) : Int), .int .i64 tm] := by unfold rowOf; rw [htm]; rfl
    have T := MineCW.done (A2 := some ⟨gq, off + 4, none⟩) (n2 := k) (c2 := e2 - 1) (ds := d.done ++ [rowOf d r.x]) mcB hSw m2B (h6.mono hA3) ⟨by rw [List.flatMap_append, List.flatMap_singleton, hro]; exact o6, fun b hb => (q6 b hb).imp (hA3 b) fun h => ⟨h, (own_top o6 hb).2⟩⟩
    refine ⟨⟨A0, n0, e0, A1, n1, e1, some ⟨gq, off + 4, none⟩, k, e2 - 1, A6, n3 + 1, c6, A4, n4, e4⟩, r.x, q, HQ.out, ret_bool hp.symm, Bg7, ?_, ⟨rfl, by show k ≤ e2 - 1; omega, rfl, rfl, Nat.le_refl _, Nat.le_succ _⟩, ?_⟩
    ·rw [HD.out, hp]
     exact (T.only hst (fun b h1 (h2 : b = g) => by
      rcases h1 with h1 | h1
      ·exact hSg b h1 h2
      ·exact absurd (h2 ▸ h1.1) (Nat.not_le_of_lt hgw))).wide fun b h1 => h1.imp id fun h2 => ⟨Nat.le_trans (Nat.le_of_eq HCB.out) (Nat.le_trans (Nat.le_of_lt hcb) h2.1), Nat.lt_of_lt_of_le h2.2 (Nat.le_of_eq hz7.symm)⟩
    ·exact (((ho.mono fun b hb => .inr hb).trans (Only.of_below U)).trans (Only.of_below KqB)).trans ((h6.mono fun b hb => .inl (hA3 b hb).1).trans (hst.mono fun b hb => .inr hb))
   refine aC rfl (fun K hK => ?_) aN
   ·go_simp
    refine hK.out _ _ (by (try dsimp only); first | exact ⟨pg 0, pc 0, pc 1, pc 2, pc 3⟩ | exact ⟨pgB 0, pcB 0, pcB 1, pcB 2, pcB 3⟩ | exact ⟨pg6 0, pc6 0, pc6 1, pc6 2, pc6 3⟩) (fun hH => ?_)
    clear hK K
    try simp only [Act.put, pX]
    refine wR (rs := [4]) (by kernel_rfl) (by simp) ?_
    refine aC rfl (fun K hK => ?_) aN
    go_simp
    refine hK.out _ _ (by (try dsimp only); first | exact ⟨pg 0, pc 0, pc 1, pc 2, pc 3⟩ | exact ⟨pgB 0, pcB 0, pcB 1, pcB 2, pcB 3⟩ | exact ⟨pg6 0, pc6 0, pc6 1, pc6 2, pc6 3⟩) (fun hH => ?_)
    clear hK K
    try simp only [Act.put, pX]
    refine wR (rs := [21]) (by kernel_rfl) (by simp) ?_
    refine aC rfl (fun K hK => ?_) aN
    refine step_cat rfl _ _ _ (by rfl) Tryz.underlying26 info_impl_DeskRow rfl (by decide) (by rfl) mcB.f3.own (by rfl) (m := 1) (BR.sees (s := 3) (Nat.zero_le _) rfl) (by rfl) (show n3 ≤ 1000000000 by omega) (by omega) (by decide) (Nat.zero_le _) ?_
    intro A6 c6 w7 o6 h6 b6 q6
    have hA3 : ∀ b, OwnB A3 b → Hue S col 3 b := mcB.f3.top
    have Bg6 := BgB.only h6 (fun h => hg (hA3 g h).1)
    have pg6 := Bg6.cell
    have fg6 := Bg6.frozen
    have Bc6 := BcB.only h6 (fun h => Nat.lt_irrefl _ (hS cb (hA3 cb h).1))
    have pc6 := Bc6.cell
    have Bg7 := Bg6.set_ 3 (.slice A6 (n3 + 1) c6)
    have pc7 := (Bc6.far (p := ⟨g, 3, none⟩) (fun (e : cb = g) => by omega) (.slice A6 (n3 + 1) c6)).cell
    have pg7 := Bg7.cell
    refine hK.out _ _ (by (try dsimp only); first | exact ⟨pg 0, pc 0, pc 1, pc 2, pc 3⟩ | exact ⟨pgB 0, pcB 0, pcB 1, pcB 2, pcB 3⟩ | exact ⟨pg6 0, pc6 0, pc6 1, pc6 2, pc6 3⟩) (fun hH => ?_)
    clear hK K
    try simp only [Act.put, pX]
    refine wT (i := 22) (v := ?_) rfl (by kernel_rfl) (by kernel_rfl) (by kernel_rfl) (fun _ _ _ h => h) (Or.inl ⟨by rfl, ?_⟩) (by assumption) ?_
    rotate_left 1
    ·(intro w hSw; (try dsimp only at hSw); go_simp; try with_reducible rfl)
    simp only [Act.put, pX]
    refine wT (i := 23) (v := ?_) rfl (by kernel_rfl) (by kernel_rfl) (by kernel_rfl) (fun _ _ _ h => h) (Or.inl ⟨by rfl, ?_⟩) (by assumption) ?_
    rotate_left 1
    ·(intro w hSw; (try dsimp only at hSw); go_simp; try with_reducible rfl)
    simp only [Act.put, pX]
    refine wR (rs := [24]) (by kernel_rfl) (by simp) ?_
    refine aC rfl (fun K hK => ?_) aN
    go_simp
    refine hK.out _ _ (by (try dsimp only); exact ⟨pg7 0, pc7 0, pc7 1, pc7 2, pc7 3⟩) (fun hH => ?_)
    clear hK K
    try simp only [Act.put, pX]
    refine wD (by kernel_rfl) ?_ _
    go_wp2_with fail
    go_ret
    have hp : putsB d r.x = true := by unfold putsB; rw [HK.out, HDN.out]; rfl
    have hcb := BcB.lt
    have hgw := BgB.lt
    have hSw : ∀ b, S b → b < ((w6.alloc (.cells #[.int .i64 r.x.number, .int .i64 (((missL r.x d.codes).length : Nat) : Int), .int .i64 tm] 41))).heap.size := fun b hb => Nat.lt_trans (hS b hb) hcb
    have hst : Only (fun b => b = g) w7 (w7.setCell ⟨g, 3, none⟩ (.slice A6 (n3 + 1) c6)) := (Only.refl (fun b => b = g) w7).setCell (p := ⟨g, 3, none⟩) rfl _
    have hz7 : (w7.setCell ⟨g, 3, none⟩ (.slice A6 (n3 + 1) c6)).heap.size = w7.heap.size := by simp [World.setCell]
    have hro : (rowOf d r.x).enc = [.int .i64 r.x.number, .int .i64 (((missL r.x d.codes).length : Nat) : Int), .int .i64 tm] := by unfold rowOf; rw [htm]; rfl
    have T := MineCW.done (A2 := some ⟨gq, off + 4, none⟩) (n2 := k) (c2 := e2 - 1) (ds := d.done ++ [rowOf d r.x]) mcB hSw m2B (h6.mono hA3) ⟨by rw [List.flatMap_append, List.flatMap_singleton, hro]; exact o6, fun b hb => (q6 b hb).imp (hA3 b) fun h => ⟨h, (own_top o6 hb).2⟩⟩
    refine ⟨⟨A0, n0, e0, A1, n1, e1, some ⟨gq, off + 4, none⟩, k, e2 - 1, A6, n3 + 1, c6, A4, n4, e4⟩, r.x, q, HQ.out, ret_bool hp.symm, Bg7, ?_, ⟨rfl, by show k ≤ e2 - 1; omega, rfl, rfl, Nat.le_refl _, Nat.le_succ _⟩, ?_⟩
    ·rw [HD.out, hp]
     exact (T.only hst (fun b h1 (h2 : b = g) => by
      rcases h1 with h1 | h1
      ·exact hSg b h1 h2
      ·exact absurd (h2 ▸ h1.1) (Nat.not_le_of_lt hgw))).wide fun b h1 => h1.imp id fun h2 => ⟨Nat.le_trans (Nat.le_of_eq HCB.out) (Nat.le_trans (Nat.le_of_lt hcb) h2.1), Nat.lt_of_lt_of_le h2.2 (Nat.le_of_eq hz7.symm)⟩
    ·exact (((ho.mono fun b hb => .inr hb).trans (Only.of_below U)).trans (Only.of_below KqB)).trans ((h6.mono fun b hb => .inl (hA3 b hb).1).trans (hst.mono fun b hb => .inr hb))
 have HDN := Lib.hid hdn
 clear hdn
 refine wp_region_held_drew (S := fun w' => w'.cell? ⟨g, 1, none⟩ = some (.slice A1 n1 e1) ∧ w'.cell? ⟨g, 3, none⟩ = some (.slice A3 n3 e3) ∧ w'.cell? ⟨cb, 0, none⟩ = some (.int .i64 r.x.number)) (by kernel_rfl) (by (try dsimp only); exact ⟨pg 1, pg 3, pc 0⟩) (fun hH => ?_)
 refine wT (i := 0) (v := ?_) rfl (by kernel_rfl) (by kernel_rfl) (by kernel_rfl) (fun _ _ _ h => h) (Or.inl ⟨by rfl, ?_⟩) (by assumption) ?_
 rotate_left 1
 ·(intro w hSw; (try dsimp only at hSw); go_simp; try with_reducible rfl)
 simp only [Act.put, pX]
 refine wT (i := 1) (v := ?_) rfl (by kernel_rfl) (by kernel_rfl) (by kernel_rfl) (fun _ _ _ h => h) (Or.inl ⟨by rfl, ?_⟩) (by assumption) ?_
 rotate_left 1
 ·(intro w hSw; (try dsimp only at hSw); go_simp; try with_reducible rfl)
 simp only [Act.put, pX]
 refine wT (i := 2) (v := ?_) rfl (by kernel_rfl) (by kernel_rfl) (by kernel_rfl) (fun _ _ _ h => h) (Or.inl ⟨by rfl, ?_⟩) (by assumption) ?_
 rotate_left 1
 ·(intro w hSw; (try dsimp only at hSw); go_simp; try with_reducible rfl)
 simp only [Act.put, pX]
 refine wT (i := 3) (v := ?_) rfl (by kernel_rfl) (by kernel_rfl) (by kernel_rfl) (fun _ _ _ h => h) (Or.inl ⟨by rfl, ?_⟩) (by assumption) ?_
 rotate_left 1
 ·(intro w hSw; (try dsimp only at hSw); go_simp; try with_reducible rfl)
 simp only [Act.put, pX]
 refine wT (i := 4) (v := ?_) rfl (by kernel_rfl) (by kernel_rfl) (by kernel_rfl) (fun _ _ _ h => h) (Or.inl ⟨by rfl, ?_⟩) (by assumption) ?_
 rotate_left 1
 ·(intro w hSw; (try dsimp only at hSw); go_simp; try with_reducible rfl)
 simp only [Act.put, pX]
 refine wT (i := 5) (v := ?_) rfl (by kernel_rfl) (by kernel_rfl) (by kernel_rfl) (fun _ _ _ h => h) (Or.inl ⟨by rfl, ?_⟩) (by assumption) ?_
 rotate_left 1
 ·(intro w hSw; (try dsimp only at hSw); go_simp; try with_reducible rfl)
 simp only [Act.put, pX]
 refine wR (rs := [6]) (by kernel_rfl) (by simp) ?_
 refine aC rfl (fun K hK => ?_) aN
 go_simp
 refine (Contains_has A1 n1 e1 d.known r.x.number _ x1 (by omega)).mono ?_
 rw [HK.out]
 rintro e w4 ⟨rfl, qq⟩
 have b := qq.below w3.drew.heap.size
 replace Bg := Bg.next b
 replace Bc := Bc.next b
 replace mr := mr.next b
 replace m2 := m2.next b
 replace mc := mc.next b
 replace x1 := x1.next b
 replace x3 := x3.next b
 replace Kq := bel_then Kq b
 clear b qq pg pc
 have pg := Bg.cell
 have pc := Bc.cell
 go_wp2_with fail
 refine hK.out _ _ (by (try dsimp only); exact ⟨pg 1, pg 3, pc 0⟩) (fun hH => ?_)
 clear hK K
 refine wT (i := 7) (v := ?_) rfl (by kernel_rfl) (by kernel_rfl) (by kernel_rfl) (fun _ _ _ h => h) (Or.inl ⟨by rfl, ?_⟩) (by assumption) ?_
 rotate_left 1
 ·(intro w hSw; (try dsimp only at hSw); go_simp; try with_reducible rfl)
 simp only [Act.put, pX]
 refine wT (i := 8) (v := ?_) rfl (by kernel_rfl) (by kernel_rfl) (by kernel_rfl) (fun _ _ _ h => h) (Or.inl ⟨by rfl, ?_⟩) (by assumption) ?_
 rotate_left 1
 ·(intro w hSw; (try dsimp only at hSw); go_simp; try with_reducible rfl)
 simp only [Act.put, pX]
 refine wT (i := 9) (v := ?_) rfl (by kernel_rfl) (by kernel_rfl) (by kernel_rfl) (fun _ _ _ h => h) (Or.inl ⟨by rfl, ?_⟩) (by assumption) ?_
 rotate_left 1
 ·(intro w hSw; (try dsimp only at hSw); go_simp; try with_reducible rfl)
 simp only [Act.put, pX]
 refine wT (i := 10) (v := ?_) rfl (by kernel_rfl) (by kernel_rfl) (by kernel_rfl) (fun _ _ _ h => h) (Or.inl ⟨by rfl, ?_⟩) (by assumption) ?_
 rotate_left 1
 ·(intro w hSw; (try dsimp only at hSw); go_simp; try with_reducible rfl)
 simp only [Act.put, pX]
 refine wT (i := 11) (v := ?_) rfl (by kernel_rfl) (by kernel_rfl) (by kernel_rfl) (fun _ _ _ h => h) (Or.inl ⟨by rfl, ?_⟩) (by assumption) ?_
 rotate_left 1
 ·(intro w hSw; (try dsimp only at hSw); go_simp; try with_reducible rfl)
 simp only [Act.put, pX]
 refine wT (i := 12) (v := ?_) rfl (by kernel_rfl) (by kernel_rfl) (by kernel_rfl) (fun _ _ _ h => h) (Or.inl ⟨by rfl, ?_⟩) (by assumption) ?_
 rotate_left 1
 ·(intro w hSw; (try dsimp only at hSw); go_simp; try with_reducible rfl)
 simp only [Act.put, pX]
 refine wT (i := 13) (v := ?_) rfl (by kernel_rfl) (by kernel_rfl) (by kernel_rfl) (fun _ _ _ h => h) (Or.inl ⟨by rfl, ?_⟩) (by assumption) ?_
 rotate_left 1
 ·(intro w hSw; (try dsimp only at hSw); go_simp; try with_reducible rfl)
 simp only [Act.put, pX]
 refine wT (i := 14) (v := ?_) rfl (by kernel_rfl) (by kernel_rfl) (by kernel_rfl) (fun _ _ _ h => h) (Or.inl ⟨by rfl, ?_⟩) (by assumption) ?_
 rotate_left 1
 ·(intro w hSw; (try dsimp only at hSw); go_simp; try with_reducible rfl)
 simp only [Act.put, pX]
 refine wR (rs := [15]) (by kernel_rfl) (by simp) ?_
 refine aC rfl (fun K hK => ?_) aN
 go_simp
 refine (isDone_any A3 n3 e3 d.done r.x.number _ x3 (by omega)).mono ?_
 rw [HDN.out]
 rintro e w5 ⟨rfl, b⟩
 replace Bg := Bg.next b
 replace Bc := Bc.next b
 replace mr := mr.next b
 replace m2 := m2.next b
 replace mc := mc.next b
 replace x1 := x1.next b
 replace x3 := x3.next b
 replace Kq := bel_then Kq b
 clear b pg pc
 have pg := Bg.cell
 have pc := Bc.cell
 go_wp2_with fail
 refine hK.out _ _ (by (try dsimp only); exact ⟨pg 1, pg 3, pc 0⟩) (fun hH => ?_)
 clear hK K
 refine wT (i := 16) (v := ?_) rfl (by kernel_rfl) (by kernel_rfl) (by kernel_rfl) (fun _ _ _ h => h) (Or.inl ⟨by rfl, ?_⟩) (by assumption) ?_
 rotate_left 1
 ·(intro w hSw; (try dsimp only at hSw); go_simp; try with_reducible rfl)
 simp only [Act.put, pX]
 refine wD (by kernel_rfl) ?_ _
 go_wp2_with fail
 have U4 : Below w5.heap.size w5 (w5.alloc (.cells #[.int .i64 r.x.number, .int .i64 r.x.start, .int .i64 r.x.finish, .slice r.A r.n r.c] 31)).drew := bel_then ((Below.refl _ _).alloc (Nat.le_refl _) _) ((Quiet.one _).below _)
 have BA : Blk (w5.alloc (.cells #[.int .i64 r.x.number, .int .i64 r.x.start, .int .i64 r.x.finish, .slice r.A r.n r.c] 31)).drew w5.heap.size 31 [.int .i64 r.x.number, .int .i64 r.x.start, .int .i64 r.x.finish, .slice r.A r.n r.c] := (show Blk (w5.alloc (.cells #[.int .i64 r.x.number, .int .i64 r.x.start, .int .i64 r.x.finish, .slice r.A r.n r.c] 31)) w5.heap.size 31 [.int .i64 r.x.number, .int .i64 r.x.start, .int .i64 r.x.finish, .slice r.A r.n r.c] from Blk.at_ rfl).next ((Quiet.one _).below _)
 have pg := Bg.next ((Quiet.one w5).below _) |>.cell
 have pc := Bc.next ((Quiet.one w5).below _) |>.cell
 replace Bg := Bg.next U4
 replace Bc := Bc.next U4
 replace mr := mr.next U4
 replace m2 := m2.next U4
 replace mc := mc.next U4
 replace x1 := x1.next U4
 replace x3 := x3.next U4
 replace Kq := bel_then Kq U4
 have pgA := Bg.cell
 have pcA := Bc.cell
 obtain ⟨rs, hrs, M4⟩ := mc.f4
 dsimp only at M4 hrs
 refine wp_region_held_drew (S := fun w' => w'.cell? ⟨cb, 0, none⟩ = some (.int .i64 r.x.number) ∧ w'.cell? ⟨cb, 1, none⟩ = some (.int .i64 r.x.start) ∧ w'.cell? ⟨cb, 2, none⟩ = some (.int .i64 r.x.finish) ∧ w'.cell? ⟨cb, 3, none⟩ = some (.slice r.A r.n r.c)) (by kernel_rfl) (by (try dsimp only); first | exact ⟨pc 0, pc 1, pc 2, pc 3⟩ | exact ⟨pcA 0, pcA 1, pcA 2, pcA 3⟩ | exact ⟨pc6 0, pc6 1, pc6 2, pc6 3⟩) (fun hH => ?_)
 refine wT (i := 0) (v := ?_) rfl (by kernel_rfl) (by kernel_rfl) (by kernel_rfl) (fun _ _ _ h => h) (Or.inl ⟨by rfl, ?_⟩) (by assumption) ?_
 rotate_left 1
 ·(intro w hSw; (try dsimp only at hSw); go_simp; try with_reducible rfl)
 simp only [Act.put, pX]
 refine wT (i := 1) (v := ?_) rfl (by kernel_rfl) (by kernel_rfl) (by kernel_rfl) (fun _ _ _ h => h) (Or.inl ⟨by rfl, ?_⟩) (by assumption) ?_
 rotate_left 1
 ·(intro w hSw; (try dsimp only at hSw); go_simp; try with_reducible rfl)
 simp only [Act.put, pX]
 refine wT (i := 2) (v := ?_) rfl (by kernel_rfl) (by kernel_rfl) (by kernel_rfl) (fun _ _ _ h => h) (Or.inl ⟨by rfl, ?_⟩) (by assumption) ?_
 rotate_left 1
 ·(intro w hSw; (try dsimp only at hSw); go_simp; try with_reducible rfl)
 simp only [Act.put, pX]
 refine wT (i := 3) (v := ?_) rfl (by kernel_rfl) (by kernel_rfl) (by kernel_rfl) (fun _ _ _ h => h) (Or.inl ⟨by rfl, ?_⟩) (by assumption) ?_
 rotate_left 1
 ·(intro w hSw; (try dsimp only at hSw); go_simp; try with_reducible rfl)
 simp only [Act.put, pX]
 refine wT (i := 5) (v := ?_) rfl (by kernel_rfl) (by kernel_rfl) (by kernel_rfl) (fun _ _ _ h => h) (Or.inl ⟨by rfl, ?_⟩) (by assumption) ?_
 rotate_left 1
 ·(intro w hSw; (try dsimp only at hSw); go_simp; try with_reducible rfl)
 simp only [Act.put, pX]
 refine wR (rs := [4, 6]) (by kernel_rfl) (by simp) ?_
 refine aC rfl (fun K hK => ?_) ?_
 ·go_simp
  refine hK.out _ _ (by (try dsimp only); first | exact ⟨pc 0, pc 1, pc 2, pc 3⟩ | exact ⟨pcA 0, pcA 1, pcA 2, pcA 3⟩ | exact ⟨pc6 0, pc6 1, pc6 2, pc6 3⟩) (fun hH => ?_)
  clear hK K
  try simp only [Act.put, pX]
  refine wR (rs := [6]) (by kernel_rfl) (by simp) ?_
  refine aC rfl (fun K hK => ?_) aN
  go_simp
  refine hK.out _ _ (by (try dsimp only); first | exact ⟨pc 0, pc 1, pc 2, pc 3⟩ | exact ⟨pcA 0, pcA 1, pcA 2, pcA 3⟩ | exact ⟨pc6 0, pc6 1, pc6 2, pc6 3⟩) (fun hH => ?_)
  clear hK K
  try simp only [Act.put, pX]
  refine wR (rs := [7]) (by kernel_rfl) (by simp) ?_
  refine aC rfl (fun K hK => ?_) aN
  refine step_cat rfl _ _ _ (by rfl) Tryz.underlying25 info_impl_Card rfl (by decide) (by rfl) M4.outer.own (by rfl) (m := 1) (BA.sees (s := 4) (Nat.zero_le _) rfl) (by rfl) (by omega) (by omega) (by decide) (Nat.zero_le _) ?_
  intro A6 c6 w6 o6 h6 b6 q6
  have hA4 : ∀ b, OwnB A4 b → Hue S col 4 b := M4.outer.top
  have Bg6 := Bg.only h6 (fun h => hg (hA4 g h).1)
  have pg6 := Bg6.cell
  have fg6 := Bg6.frozen
  have Bc6 := Bc.only h6 (fun h => Nat.lt_irrefl _ (hS cb (hA4 cb h).1))
  have pc6 := Bc6.cell
  have Bg7 := Bg6.set_ 4 (.slice A6 (n4 + 1) c6)
  have pc7 := (Bc6.far (p := ⟨g, 4, none⟩) (fun (e : cb = g) => by omega) (.slice A6 (n4 + 1) c6)).cell
  refine hK.out _ _ (by (try dsimp only); first | exact ⟨pc 0, pc 1, pc 2, pc 3⟩ | exact ⟨pcA 0, pcA 1, pcA 2, pcA 3⟩ | exact ⟨pc6 0, pc6 1, pc6 2, pc6 3⟩) (fun hH => ?_)
  clear hK K
  try simp only [Act.put, pX]
  refine wT (i := 8) (v := ?_) rfl (by kernel_rfl) (by kernel_rfl) (by kernel_rfl) (fun _ _ _ h => h) (Or.inl ⟨by rfl, ?_⟩) (by assumption) ?_
  rotate_left 1
  ·(intro w hSw; (try dsimp only at hSw); go_simp; try with_reducible rfl)
  simp only [Act.put, pX]
  refine wT (i := 9) (v := ?_) rfl (by kernel_rfl) (by kernel_rfl) (by kernel_rfl) (fun _ _ _ h => h) (Or.inl ⟨by rfl, ?_⟩) (by assumption) ?_
  rotate_left 1
  ·(intro w hSw; (try dsimp only at hSw); go_simp; try with_reducible rfl)
  simp only [Act.put, pX]
  refine wR (rs := [10]) (by kernel_rfl) (by simp) ?_
  refine aC rfl (fun K hK => ?_) aN
  go_simp
  refine hK.out _ _ (by (try dsimp only); exact ⟨pc7 0, pc7 1, pc7 2, pc7 3⟩) (fun hH => ?_)
  clear hK K
  try simp only [Act.put, pX]
  refine wD (by kernel_rfl) ?_ _
  go_wp2_with fail
  go_ret
  have hp : putsB d r.x = false := by unfold putsB; rw [HK.out, HDN.out]; rfl
  have hcb := Bc.lt
  have hgw := Bg.lt
  have hSw : ∀ b, S b → b < ((w5.alloc (.cells #[.int .i64 r.x.number, .int .i64 r.x.start, .int .i64 r.x.finish, .slice r.A r.n r.c] 31)).drew).heap.size := fun b hb => Nat.lt_trans (hS b hb) hcb
  have hst : Only (fun b => b = g) w6 (w6.setCell ⟨g, 4, none⟩ (.slice A6 (n4 + 1) c6)) := (Only.refl (fun b => b = g) w6).setCell (p := ⟨g, 4, none⟩) rfl _
  have hz7 : (w6.setCell ⟨g, 4, none⟩ (.slice A6 (n4 + 1) c6)).heap.size = w6.heap.size := by simp [World.setCell]
  have T := MineCW.trouble (A2 := some ⟨gq, off + 4, none⟩) (n2 := k) (c2 := e2 - 1) mc hSw hrs M4.inners M4.apart mr m2 hA4 h6 (fun b hb => (q6 b hb).imp id fun h => ⟨h, (own_top o6 hb).2⟩) (by rw [List.flatMap_append]; exact o6)
  refine ⟨⟨A0, n0, e0, A1, n1, e1, some ⟨gq, off + 4, none⟩, k, e2 - 1, A3, n3, e3, A6, n4 + 1, c6⟩, r.x, q, HQ.out, ret_bool hp.symm, Bg7, ?_, ⟨rfl, by show k ≤ e2 - 1; omega, rfl, rfl, Nat.le_succ _, Nat.le_refl _⟩, ?_⟩
  ·rw [HD.out, hp]
   exact (T.only hst (fun b h1 (h2 : b = g) => by
    rcases h1 with h1 | h1
    ·exact hSg b h1 h2
    ·exact absurd (h2 ▸ h1.1) (Nat.not_le_of_lt hgw))).wide fun b h1 => h1.imp id fun h2 => ⟨Nat.le_trans (Nat.le_of_eq HCB.out) (Nat.le_trans (Nat.le_of_lt hcb) h2.1), Nat.lt_of_lt_of_le h2.2 (Nat.le_of_eq hz7.symm)⟩
  ·exact (((ho.mono fun b hb => .inr hb).trans (Only.of_below U)).trans (Only.of_below Kq)).trans ((h6.mono fun b hb => .inl (hA4 b hb).1).trans (hst.mono fun b hb => .inr hb))
 refine aC rfl (fun K hK => ?_) aN
 ·go_simp
  refine hK.out _ _ (by (try dsimp only); first | exact ⟨pc 0, pc 1, pc 2, pc 3⟩ | exact ⟨pcA 0, pcA 1, pcA 2, pcA 3⟩ | exact ⟨pc6 0, pc6 1, pc6 2, pc6 3⟩) (fun hH => ?_)
  clear hK K
  try simp only [Act.put, pX]
  refine wR (rs := [4]) (by kernel_rfl) (by simp) ?_
  refine aC rfl (fun K hK => ?_) aN
  go_simp
  refine hK.out _ _ (by (try dsimp only); first | exact ⟨pc 0, pc 1, pc 2, pc 3⟩ | exact ⟨pcA 0, pcA 1, pcA 2, pcA 3⟩ | exact ⟨pc6 0, pc6 1, pc6 2, pc6 3⟩) (fun hH => ?_)
  clear hK K
  try simp only [Act.put, pX]
  refine wR (rs := [7]) (by kernel_rfl) (by simp) ?_
  refine aC rfl (fun K hK => ?_) aN
  refine step_cat rfl _ _ _ (by rfl) Tryz.underlying25 info_impl_Card rfl (by decide) (by rfl) M4.outer.own (by rfl) (m := 1) (BA.sees (s := 4) (Nat.zero_le _) rfl) (by rfl) (by omega) (by omega) (by decide) (Nat.zero_le _) ?_
  intro A6 c6 w6 o6 h6 b6 q6
  have hA4 : ∀ b, OwnB A4 b → Hue S col 4 b := M4.outer.top
  have Bg6 := Bg.only h6 (fun h => hg (hA4 g h).1)
  have pg6 := Bg6.cell
  have fg6 := Bg6.frozen
  have Bc6 := Bc.only h6 (fun h => Nat.lt_irrefl _ (hS cb (hA4 cb h).1))
  have pc6 := Bc6.cell
  have Bg7 := Bg6.set_ 4 (.slice A6 (n4 + 1) c6)
  have pc7 := (Bc6.far (p := ⟨g, 4, none⟩) (fun (e : cb = g) => by omega) (.slice A6 (n4 + 1) c6)).cell
  refine hK.out _ _ (by (try dsimp only); first | exact ⟨pc 0, pc 1, pc 2, pc 3⟩ | exact ⟨pcA 0, pcA 1, pcA 2, pcA 3⟩ | exact ⟨pc6 0, pc6 1, pc6 2, pc6 3⟩) (fun hH => ?_)
  clear hK K
  try simp only [Act.put, pX]
  refine wT (i := 8) (v := ?_) rfl (by kernel_rfl) (by kernel_rfl) (by kernel_rfl) (fun _ _ _ h => h) (Or.inl ⟨by rfl, ?_⟩) (by assumption) ?_
  rotate_left 1
  ·(intro w hSw; (try dsimp only at hSw); go_simp; try with_reducible rfl)
  simp only [Act.put, pX]
  refine wT (i := 9) (v := ?_) rfl (by kernel_rfl) (by kernel_rfl) (by kernel_rfl) (fun _ _ _ h => h) (Or.inl ⟨by rfl, ?_⟩) (by assumption) ?_
  rotate_left 1
  ·(intro w hSw; (try dsimp only at hSw); go_simp; try with_reducible rfl)
  simp only [Act.put, pX]
  refine wR (rs := [10]) (by kernel_rfl) (by simp) ?_
  refine aC rfl (fun K hK => ?_) aN
  go_simp
  refine hK.out _ _ (by (try dsimp only); exact ⟨pc7 0, pc7 1, pc7 2, pc7 3⟩) (fun hH => ?_)
  clear hK K
  try simp only [Act.put, pX]
  refine wD (by kernel_rfl) ?_ _
  go_wp2_with fail
  go_ret
  have hp : putsB d r.x = false := by unfold putsB; rw [HK.out, HDN.out]; rfl
  have hcb := Bc.lt
  have hgw := Bg.lt
  have hSw : ∀ b, S b → b < ((w5.alloc (.cells #[.int .i64 r.x.number, .int .i64 r.x.start, .int .i64 r.x.finish, .slice r.A r.n r.c] 31)).drew).heap.size := fun b hb => Nat.lt_trans (hS b hb) hcb
  have hst : Only (fun b => b = g) w6 (w6.setCell ⟨g, 4, none⟩ (.slice A6 (n4 + 1) c6)) := (Only.refl (fun b => b = g) w6).setCell (p := ⟨g, 4, none⟩) rfl _
  have hz7 : (w6.setCell ⟨g, 4, none⟩ (.slice A6 (n4 + 1) c6)).heap.size = w6.heap.size := by simp [World.setCell]
  have T := MineCW.trouble (A2 := some ⟨gq, off + 4, none⟩) (n2 := k) (c2 := e2 - 1) mc hSw hrs M4.inners M4.apart mr m2 hA4 h6 (fun b hb => (q6 b hb).imp id fun h => ⟨h, (own_top o6 hb).2⟩) (by rw [List.flatMap_append]; exact o6)
  refine ⟨⟨A0, n0, e0, A1, n1, e1, some ⟨gq, off + 4, none⟩, k, e2 - 1, A3, n3, e3, A6, n4 + 1, c6⟩, r.x, q, HQ.out, ret_bool hp.symm, Bg7, ?_, ⟨rfl, by show k ≤ e2 - 1; omega, rfl, rfl, Nat.le_succ _, Nat.le_refl _⟩, ?_⟩
  ·rw [HD.out, hp]
   exact (T.only hst (fun b h1 (h2 : b = g) => by
    rcases h1 with h1 | h1
    ·exact hSg b h1 h2
    ·exact absurd (h2 ▸ h1.1) (Nat.not_le_of_lt hgw))).wide fun b h1 => h1.imp id fun h2 => ⟨Nat.le_trans (Nat.le_of_eq HCB.out) (Nat.le_trans (Nat.le_of_lt hcb) h2.1), Nat.lt_of_lt_of_le h2.2 (Nat.le_of_eq hz7.symm)⟩
  ·exact (((ho.mono fun b hb => .inr hb).trans (Only.of_below U)).trans (Only.of_below Kq)).trans ((h6.mono fun b hb => .inl (hA4 b hb).1).trans (hst.mono fun b hb => .inr hb))

end Go.Proofs.YtkimlajfhepfgaaGreat
