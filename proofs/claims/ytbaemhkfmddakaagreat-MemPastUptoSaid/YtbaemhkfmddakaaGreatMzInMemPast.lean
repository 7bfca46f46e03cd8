/- Printed by row.py: data handed in. -/
import Derived.Test.YtbaemhkfmddakaaGreatSyLaw
import Derived.Test.YtbaemhkfmddakaaGreatSyMap
import Derived.Test.YtbaemhkfmddakaaGreatMzKd
import Derived.Test.YtbaemhkfmddakaaGreatRows
set_option linter.unusedVariables false
set_option maxRecDepth 100000
namespace Go.Proofs.YtbaemhkfmddakaaGreat.Mo
open Go Go.Proofs.YtbaemhkfmddakaaGreat.Sy Go.ChangeShapes Go.WideShapes Go.RowKit
open Go.Proofs Go.Proofs.YtbaemhkfmddakaaGreat

def Bk {H : Type} (d : DataW H) : Nat := Rows.uptoBulk d
def Bl {H : Type} (d : List (DataW H)) : Nat := Rows.uptoBulkAll d
theorem Bk_one {H : Type} (d : DataW H) : 1 ≤ Bk d := by
  cases d with
  | lit l => cases l <;> simp [Bk, Rows.uptoBulk]
  | nil => simp [Bk, Rows.uptoBulk]
  | ptr d => simp [Bk, Rows.uptoBulk]
  | slice elems spare => simp [Bk, Rows.uptoBulk]
  | agg parts => simp [Bk, Rows.uptoBulk]
  | iface t d => simp [Bk, Rows.uptoBulk]
  | map entries => simp [Bk, Rows.uptoBulk]
  | held h => simp [Bk, Rows.uptoBulk]
theorem hB : Bulk @Bk @Bl where
  one := Bk_one
  str l := by simp [Bk, Rows.uptoBulk]
  slice e s := by simp only [Bk, Bl, Rows.uptoBulk]; omega
  agg l := by simp only [Bk, Bl, Rows.uptoBulk]; omega
  ptr d := by simp only [Bk, Rows.uptoBulk]; omega
  nil := rfl
  cons d l := rfl
theorem in_3 : In Tryz.prog Bk 3 (Kd.int .i64) (fun s => (Lit.int .i64 s).wf = true) (fun _ => 1) (fun _ => True) := in_int hB Tryz.underlying3 (by kernel_rfl)
theorem in_27 : In Tryz.prog Bk 27 (Kd.int .u64) (fun s => (Lit.int .u64 s).wf = true) (fun _ => 1) (fun _ => True) := in_int hB Tryz.underlying27 (by kernel_rfl)
theorem in_9 : In Tryz.prog Bk 9 Kd.str (fun s => s.size ≤ maxLen) (fun s => s.size + 1) (fun s => s.size ≤ 140737488355327) := in_str hB Tryz.underlying9 (by kernel_rfl)
def Op.good (x : Op) : Prop := ((Lit.int .i64 x.Kind).wf = true) ∧ (x.Key.size ≤ maxLen) ∧ (x.Value.size ≤ maxLen)
def Op.szs (x : Op) : Prop := (True) ∧ (x.Key.size ≤ 140737488355327) ∧ (x.Value.size ≤ 140737488355327)
def Op.mz (x : Op) : Nat := (1 + ((x.Key.size + 1) + (x.Value.size + 1))) + 1
theorem in_32 : In Tryz.prog Bk 32 k_Op Op.good Op.mz Op.szs := by
  have h := in_struct hB Tryz.underlying32 (by kernel_rfl) (inF_cons hB in_3 rfl (inF_cons hB in_9 rfl (inF_one hB in_9)))
  exact h.map (fun x => ⟨x.1, x.2.1, x.2.2⟩) rfl (fun h => by obtain ⟨_, _, rfl, rfl, ⟨_, _, rfl, rfl, rfl⟩⟩ := h; rfl) (fun a h => h) (fun a => Nat.le_refl _) (fun a h => h)
def L10_Act.good (x : L10_Act) : Prop := ((Lit.int .i64 x.Kind).wf = true) ∧ ((Lit.int .i64 x.Height).wf = true) ∧ ((Lit.int .u64 x.Seq).wf = true) ∧ (Op.good x.Op)
def L10_Act.szs (x : L10_Act) : Prop := (True) ∧ (True) ∧ (True) ∧ (Op.szs x.Op)
def L10_Act.mz (x : L10_Act) : Nat := (1 + (1 + (1 + Op.mz x.Op))) + 1
theorem in_34 : In Tryz.prog Bk 34 k_L10_Act L10_Act.good L10_Act.mz L10_Act.szs := by
  have h := in_struct hB Tryz.underlying34 (by kernel_rfl) (inF_cons hB in_3 rfl (inF_cons hB in_3 rfl (inF_cons hB in_27 rfl (inF_one hB in_32))))
  exact h.map (fun x => ⟨x.1, x.2.1, x.2.2.1, x.2.2.2⟩) rfl (fun h => by obtain ⟨_, _, rfl, rfl, ⟨_, _, rfl, rfl, ⟨_, _, rfl, rfl, rfl⟩⟩⟩ := h; rfl) (fun a h => h) (fun a => Nat.le_refl _) (fun a h => h)
theorem bytes_34 : Tryz.prog.bytesOf 34 = 64 := by kernel_rfl
theorem in_22 : In Tryz.prog Bk 22 (Kd.slice 34 k_L10_Act) (fun l => (∀ y ∈ l, L10_Act.good y) ∧ l.length ≤ maxLen) (fun l => (l.map fun y => L10_Act.mz y).sum + 1) (fun l => l.length * 64 ≤ 140737488355327 ∧ ∀ y ∈ l, L10_Act.szs y) := by
  have h := in_slice hB Tryz.underlying22 (by kernel_rfl) in_34 (by decide)
  rw [bytes_34] at h
  exact h
end Go.Proofs.YtbaemhkfmddakaaGreat.Mo
