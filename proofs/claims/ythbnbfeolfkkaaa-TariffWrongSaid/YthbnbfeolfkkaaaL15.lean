/- The walks of CopyPieces and CopyMailing. -/
import Derived.Test.YthbnbfeolfkkaaaL10
import Derived.Test.YthbnbfeolfkkaaaSto
namespace Go.Proofs.Ythbnbfeolfkkaaa
open Go.RowKit Go.Maps

def PiecesRes (w : World) (ps : List Piece) (e : Ending) (w' : World) : Prop := ∃ v, e = .returned v ∧ OwnPieces w.heap.size w' v ps ∧ Below w.heap.size w w'
theorem onePieces (ps : List Piece) : ∀ u ∈ ps.flatMap pieceCells, u.oneCell' = true := by
  intro u hu
  obtain ⟨x, _, hx⟩ := List.mem_flatMap.1 hu
  simp only [pieceCells, List.mem_cons, List.not_mem_nil, or_false] at hx
  rcases hx with rfl | rfl | rfl | rfl | rfl <;> rfl

set_option maxHeartbeats 1000000 in
theorem copyPieces_any (B : Nat) (v : Value) (ps : List Piece) (w : World) (h : OwnPieces B w v ps) (hl : ps.length ≤ 1000000) : Calls Try.prog 52 #[v] w (PiecesRes w ps) := by
  obtain ⟨i0, hi0, hz0, hz1, hz2⟩ := info_parts piece_info
  have own0 : w.ownsRow w.heap.size 48 5 (.slice none 0 0) 0 [] := ⟨by simp, .inl ⟨rfl, rfl⟩⟩
  have hin : ∀ p ∈ ps, pieceIn (fun b => w.heap.size ≤ b) w p := fun p hp => h.2 p hp
  have hI := Lib.hid hin
  rcases h.1.2 with ⟨rfl, h0⟩ | ⟨g, cap, cur, rfl, hb, hg, hnc, hcm, hcs, htk⟩
  · have hps : ps = [] := List.eq_nil_of_length_eq_zero h0
    subst hps
    go_enter Try.func52, Try.ntmps52
    go_wp2_with (at_builtin; refine wpList_append_own_none rfl _ _ 34 rfl w.heap.size 48 i0 5 Try.underlying34 hi0 (.slice none 0 0) 0 [] rfl own0 rfl ?_)
    go_ret
    exact ⟨_, rfl, OwnL.nil_, Below.refl _ _⟩
  · have hnews : ∀ j u, (ps.flatMap pieceCells)[j]? = some u → w.cell? ((⟨g, 0, none⟩ : Addr).add j) = some u := by
      intro j u hu
      have hadd : (⟨g, 0, none⟩ : Addr).add j = ⟨g, j, none⟩ := by unfold Addr.add; split <;> simp_all
      rw [hadd]
      have hj : j < ps.length * 5 := by
        rw [← h.1.1]
        exact (List.getElem?_eq_some_iff.1 hu).1
      rw [h.1.cellAt j hj, hu]
    have hfl : (ps.flatMap pieceCells).length = ps.length * 5 := h.1.1
    have hone := onePieces ps
    have sd1 : 0 + ps.length ≤ maxLen := by unfold maxLen; omega
    have sd2 : (0 + ps.length) * 48 ≤ 140737488355328 := by omega
    have hN := Lib.hid hnews
    have hF := Lib.hid hfl
    have hO := Lib.hid hone
    clear hnews hfl hone hin h hg htk hcs
    go_enter Try.func52, Try.ntmps52
    go_wp2_with (at_builtin; refine wpList_append_own_at _ rfl _ _ 34 rfl w.heap.size 48 i0 (.agg #[.int .i64 0, .int .i64 0, .string ⟨#[]⟩, .int .i64 0, .bool false]) 5 48 Try.underlying34 hi0 hz0 hz1 hz2 rfl (by decide) (.slice none 0 0) 0 [] rfl own0 ⟨g, 0, none⟩ ps.length cap (ps.flatMap pieceCells) rfl hF.out hN.out hO.out sd1 sd2 (Nat.le_refl _) ?_; intro v' w1 hown1 hgr1 hnil1 hat1)
    go_ret
    exact ⟨v', rfl, ⟨by simpa using hown1, fun p hp => hI.out p hp⟩, (Below.refl _ _).grown hgr1 (Nat.le_refl _) (fun k e => by cases e)⟩

set_option maxHeartbeats 2000000 in
theorem copyMailing_any (B : Nat) (cls country : Int) (o : ByteArray) (v : Value) (ps : List Piece) (w : World) (h : OwnPieces B w v ps) (hl : ps.length ≤ 1000000) :
    Calls Try.prog 26 #[.agg #[.int .u8 cls, .int .u8 country, .string o, v]] w (MailOwn w ⟨cls, country, o, ps⟩) := by
  have hh := Lib.hid h
  obtain ⟨A, c, rfl⟩ := h.form_
  clear h
  have hW : Below w.heap.size w ((w.alloc (.cells #[.int .u8 cls, .int .u8 country, .string o, .slice A ps.length c] 36)).alloc (.cells #[.int .u8 0, .int .u8 0, .string ⟨#[]⟩, .slice none 0 0] 36)) := ((Below.refl _ _).alloc (Nat.le_refl _) _).alloc (by simp) _
  have k0 : Blk ((w.alloc (.cells #[.int .u8 cls, .int .u8 country, .string o, .slice A ps.length c] 36)).alloc (.cells #[.int .u8 0, .int .u8 0, .string ⟨#[]⟩, .slice none 0 0] 36)) w.heap.size 36 #[.int .u8 cls, .int .u8 country, .string o, .slice A ps.length c] := (Blk.new _ _ _).alloc _
  have k1 : Blk ((w.alloc (.cells #[.int .u8 cls, .int .u8 country, .string o, .slice A ps.length c] 36)).alloc (.cells #[.int .u8 0, .int .u8 0, .string ⟨#[]⟩, .slice none 0 0] 36)) (w.heap.size + 1) 36 #[.int .u8 0, .int .u8 0, .string ⟨#[]⟩, .slice none 0 0] := Blk.new_at _ _ _ _ (by simp)
  have hhW := Lib.hid (hh.out.keep pieceIn_inner (Keeps.of_below hW _))
  go_enter Try.func26, Try.ntmps26
  go_wp2_with fail
  refine (copyPieces_any B _ ps _ hhW.out hl).mono ?_
  rintro e w1 ⟨v', rfl, hown, hb1⟩
  generalize (w.alloc (.cells #[.int .u8 cls, .int .u8 country, .string o, .slice A ps.length c] 36)).alloc (.cells #[.int .u8 0, .int .u8 0, .string ⟨#[]⟩, .slice none 0 0] 36) = W at *
  have hs1 : w.heap.size + 1 < W.heap.size := k1.lt
  have j0 := k0.below hb1 (by omega)
  have j1 := k1.below hb1 (by omega)
  have x0 := j0.cell 0
  have x1 := j0.cell 1
  have x2 := j0.cell 2
  have x3 := j0.cell 3
  have f3 := j0.frozen 3
  have f4 := j1.frozen 0
  have f5 := j1.frozen 1
  have f6 := j1.frozen 2
  have f7 := j1.frozen 3
  have x4 := j1.cell 0
  have x5 := j1.cell 1
  have x6 := j1.cell 2
  have x7 := j1.cell 3
  simp at x0 x1 x2 x3 x4 x5 x6 x7
  have hown' := Lib.hid hown
  obtain ⟨A', c', rfl⟩ := hown.form_
  clear hown k0 k1
  have hj0 := Lib.hid j0
  have hj1 := Lib.hid j1
  clear j0 j1
  have hbW := hW.trans (hb1.mono hW.size)
  have hsz := hb1.size
  go_wp2
  refine bodyPost_ret (results_cell_row Try.results26 _ _ _ _ _ (0, 0) _ rfl ((((((hj1.out.far (by simp) _).set_ 0 _).set_ 1 _).set_ 2 _).set_ 3 _) : Blk (((((w1.setCell ⟨w.heap.size, 3, none⟩ (.slice A' ps.length c')).setCell ⟨w.heap.size + 1, 0, none⟩ (.int .u8 cls)).setCell ⟨w.heap.size + 1, 1, none⟩ (.int .u8 country)).setCell ⟨w.heap.size + 1, 2, none⟩ (.string o)).setCell ⟨w.heap.size + 1, 3, none⟩ (.slice A' ps.length c')) (w.heap.size + 1) 36 #[.int .u8 cls, .int .u8 country, .string o, .slice A' ps.length c']) Try.underlying36 rfl size36) rfl ?_
  have hkk : Keeps (fun b => W.heap.size ≤ b) w1 (((((w1.setCell ⟨w.heap.size, 3, none⟩ (.slice A' ps.length c')).setCell ⟨w.heap.size + 1, 0, none⟩ (.int .u8 cls)).setCell ⟨w.heap.size + 1, 1, none⟩ (.int .u8 country)).setCell ⟨w.heap.size + 1, 2, none⟩ (.string o)).setCell ⟨w.heap.size + 1, 3, none⟩ (.slice A' ps.length c')) := ((((Keeps.set_ _ _ _ (by simp; omega)).trans (Keeps.set_ _ _ _ (by simp; omega))).trans (Keeps.set_ _ _ _ (by simp; omega))).trans (Keeps.set_ _ _ _ (by simp; omega))).trans (Keeps.set_ _ _ _ (by simp; omega))
  refine ⟨_, rfl, (hown'.out.keep pieceIn_inner hkk).base pieceIn_inner (by omega), ?_⟩
  exact ((((hbW.setCell (by simp) _).setCell (by simp) _).setCell (by simp) _).setCell (by simp) _).setCell (by simp) _
end Go.Proofs.Ythbnbfeolfkkaaa
