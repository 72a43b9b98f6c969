/- Part of the proof of a law of this seat: the texts Tys, in this order. -/
import Derived.Test.YthldahfkngeehaaProg
import Derived.KernelRfl
import Derived.Test.YthldahfkngeehaaE
namespace Go.Proofs
open Go Go.Av
theorem tys :
    tyI Try.prog 1 = some { size := 1, bytes := 8, zero := some (.v (.nilFunc)) } ∧
    tyI Try.prog 2 = some { size := 1, bytes := 8, zero := some (.v (.int .i64 0)) } ∧
    tyI Try.prog 3 = some { size := 1, bytes := 8, zero := some (.v (.int .i64 0)) } ∧
    tyI Try.prog 4 = some { size := 1, bytes := 1, zero := some (.v (.bool false)) } ∧
    tyI Try.prog 5 = some { size := 1, bytes := 1, zero := some (.v (.int .u8 0)) } ∧
    tyI Try.prog 6 = some { size := 1, bytes := 1, zero := some (.v (.int .u8 0)) } ∧
    tyI Try.prog 7 = some { size := 4, bytes := 24, zero := some (.agg [.v (.int .i64 0), .v (.int .i64 0), .v (.bool false), .v (.int .u8 0)]) } ∧
    tyI Try.prog 8 = some { size := 4, bytes := 24, zero := some (.agg [.v (.int .i64 0), .v (.int .i64 0), .v (.bool false), .v (.int .u8 0)]) } ∧
    tyI Try.prog 9 = some { size := 1, bytes := 16, zero := some (.v (.string ⟨#[]⟩)) } ∧
    tyI Try.prog 10 = some { size := 1, bytes := 16, zero := some (.v (.string ⟨#[]⟩)) } ∧
    tyI Try.prog 11 = some { size := 1, bytes := 16, zero := some (.v (.string ⟨#[]⟩)) } ∧
    tyI Try.prog 12 = some { size := 1, bytes := 8, zero := some (.v (.int .u64 0)) } ∧
    tyI Try.prog 13 = some { size := 2, bytes := 24, zero := some (.agg [.v (.string ⟨#[]⟩), .v (.int .u64 0)]) } ∧
    tyI Try.prog 14 = some { size := 2, bytes := 24, zero := some (.agg [.v (.string ⟨#[]⟩), .v (.int .u64 0)]) } ∧
    tyI Try.prog 15 = some { size := 1, bytes := 8, zero := some (.v (.pointer none)) } ∧
    tyI Try.prog 16 = some { size := 1, bytes := 8, zero := some (.v (.pointer none)) } ∧
    tyI Try.prog 17 = some { size := 1, bytes := 8, zero := some (.v (.pointer none)) } ∧
    tyI Try.prog 18 = some { size := 1, bytes := 8, zero := some (.agg [.v (.pointer none)]) } ∧
    tyI Try.prog 19 = some { size := 1, bytes := 8, zero := some (.agg [.v (.pointer none)]) } ∧
    tyI Try.prog 20 = some { size := 1, bytes := 16, zero := some (.v (.nilIface)) } ∧
    tyI Try.prog 21 = some { size := 1, bytes := 4, zero := some (.v (.int .i32 0)) } ∧
    tyI Try.prog 22 = some { size := 1, bytes := 24, zero := some (.v (.slice none 0 0)) } ∧
    tyI Try.prog 23 = some { size := 1, bytes := 24, zero := some (.v (.slice none 0 0)) } ∧
    tyI Try.prog 24 = some { size := 1, bytes := 8, zero := some (.v (.nilFunc)) } ∧
    tyI Try.prog 25 = some { size := 1, bytes := 8, zero := some (.v (.nilFunc)) } ∧
    tyI Try.prog 26 = some { size := 1, bytes := 8, zero := some (.v (.nilFunc)) } ∧
    tyI Try.prog 27 = some { size := 1, bytes := 8, zero := some (.v (.pointer none)) } ∧
    tyI Try.prog 28 = some { size := 1, bytes := 8, zero := some (.v (.int .i64 0)) } ∧
    tyI Try.prog 30 = some { size := 1, bytes := 8, zero := some (.v (.nilFunc)) } ∧
    tyI Try.prog 32 = some { size := 1, bytes := 8, zero := some (.v (.nilFunc)) } ∧
    tyI Try.prog 33 = some { size := 1, bytes := 8, zero := some (.v (.nilFunc)) } ∧
    tyI Try.prog 34 = some { size := 1, bytes := 8, zero := some (.v (.nilFunc)) } ∧
    tyI Try.prog 35 = some { size := 1, bytes := 8, zero := some (.v (.nilFunc)) } ∧
    tyI Try.prog 36 = some { size := 1, bytes := 8, zero := some (.v (.nilFunc)) } ∧
    tyI Try.prog 37 = some { size := 4, bytes := 64, zero := some (.agg [.v (.string ⟨#[]⟩), .v (.string ⟨#[]⟩), .v (.string ⟨#[]⟩), .v (.string ⟨#[]⟩)]) } ∧
    tyI Try.prog 38 = some { size := 5, bytes := 72, zero := some (.agg [.v (.int .i64 0), .v (.string ⟨#[]⟩), .v (.string ⟨#[]⟩), .v (.string ⟨#[]⟩), .v (.string ⟨#[]⟩)]) } ∧
    tyI Try.prog 39 = some { size := 5, bytes := 72, zero := some (.agg [.v (.int .i64 0), .v (.string ⟨#[]⟩), .v (.string ⟨#[]⟩), .v (.string ⟨#[]⟩), .v (.string ⟨#[]⟩)]) } ∧
    tyI Try.prog 40 = some { size := 6, bytes := 80, zero := some (.agg [.v (.int .i64 0), .v (.string ⟨#[]⟩), .v (.string ⟨#[]⟩), .v (.string ⟨#[]⟩), .v (.string ⟨#[]⟩), .v (.int .i64 0)]) } ∧
    tyI Try.prog 41 = some { size := 6, bytes := 80, zero := some (.agg [.v (.int .i64 0), .v (.string ⟨#[]⟩), .v (.string ⟨#[]⟩), .v (.string ⟨#[]⟩), .v (.string ⟨#[]⟩), .v (.int .i64 0)]) } ∧
    tyI Try.prog 42 = some { size := 1, bytes := 8, zero := some (.v (.nilFunc)) } ∧
    tyI Try.prog 43 = some { size := 4, bytes := 32, zero := some (.agg [.v (.int .i64 0), .v (.int .i64 0), .v (.int .i64 0), .v (.int .i64 0)]) } ∧
    tyI Try.prog 44 = some { size := 4, bytes := 32, zero := some (.agg [.v (.int .i64 0), .v (.int .i64 0), .v (.int .i64 0), .v (.int .i64 0)]) } ∧
    tyI Try.prog 46 = some { size := 1, bytes := 8, zero := some (.v (.nilFunc)) } ∧
    tyI Try.prog 47 = some { size := 1, bytes := 8, zero := some (.v (.nilFunc)) } ∧
    tyI Try.prog 48 = some { size := 1, bytes := 8, zero := some (.v (.nilFunc)) } ∧
    tyI Try.prog 49 = some { size := 1, bytes := 24, zero := some (.v (.slice none 0 0)) } ∧
    tyI Try.prog 50 = some { size := 1, bytes := 8, zero := some (.v (.nilFunc)) } ∧
    tyI Try.prog 51 = some { size := 1, bytes := 8, zero := some (.v (.nilFunc)) } ∧
    tyI Try.prog 52 = some { size := 1, bytes := 8, zero := some (.v (.nilFunc)) } ∧
    tyI Try.prog 53 = some { size := 4, bytes := 4, zero := some (.agg [.v (.bool false), .v (.bool false), .v (.bool false), .v (.bool false)]) } ∧
    tyI Try.prog 54 = some { size := 14, bytes := 88, zero := some (.agg [.v (.int .i64 0), .v (.int .i64 0), .v (.bool false), .v (.bool false), .v (.bool false), .v (.bool false), .v (.bool false), .v (.bool false), .v (.bool false), .v (.bool false), .v (.string ⟨#[]⟩), .v (.string ⟨#[]⟩), .v (.string ⟨#[]⟩), .v (.string ⟨#[]⟩)]) } ∧
    tyI Try.prog 55 = some { size := 14, bytes := 88, zero := some (.agg [.v (.int .i64 0), .v (.int .i64 0), .v (.bool false), .v (.bool false), .v (.bool false), .v (.bool false), .v (.bool false), .v (.bool false), .v (.bool false), .v (.bool false), .v (.string ⟨#[]⟩), .v (.string ⟨#[]⟩), .v (.string ⟨#[]⟩), .v (.string ⟨#[]⟩)]) } ∧
    tyI Try.prog 56 = some { size := 1, bytes := 8, zero := some (.v (.nilFunc)) } ∧
    tyI Try.prog 57 = some { size := 1, bytes := 8, zero := some (.v (.nilFunc)) } ∧
    tyI Try.prog 58 = some { size := 1, bytes := 8, zero := some (.v (.nilFunc)) } ∧
    tyI Try.prog 59 = some { size := 1, bytes := 8, zero := some (.v (.nilFunc)) } ∧
    tyI Try.prog 60 = some { size := 1, bytes := 8, zero := some (.v (.nilFunc)) } ∧
    tyI Try.prog 61 = some { size := 1, bytes := 8, zero := some (.v (.nilFunc)) } ∧
    tyI Try.prog 62 = some { size := 1, bytes := 8, zero := some (.v (.nilFunc)) } ∧
    tyI Try.prog 63 = some { size := 1, bytes := 8, zero := some (.v (.nilFunc)) } ∧
    tyI Try.prog 64 = some { size := 1, bytes := 8, zero := some (.v (.nilFunc)) } ∧
    tyI Try.prog 65 = some { size := 9, bytes := 104, zero := some (.agg [.v (.int .i64 0), .v (.string ⟨#[]⟩), .v (.string ⟨#[]⟩), .v (.string ⟨#[]⟩), .v (.string ⟨#[]⟩), .v (.int .i64 0), .v (.int .i64 0), .v (.int .i64 0), .v (.int .i64 0)]) } ∧
    tyI Try.prog 66 = some { size := 9, bytes := 104, zero := some (.agg [.v (.int .i64 0), .v (.string ⟨#[]⟩), .v (.string ⟨#[]⟩), .v (.string ⟨#[]⟩), .v (.string ⟨#[]⟩), .v (.int .i64 0), .v (.int .i64 0), .v (.int .i64 0), .v (.int .i64 0)]) } ∧
    tyI Try.prog 67 = some { size := 1, bytes := 8, zero := some (.v (.nilFunc)) } ∧
    tyI Try.prog 68 = some { size := 1, bytes := 8, zero := some (.v (.nilFunc)) } ∧
    tyI Try.prog 69 = some { size := 1, bytes := 8, zero := some (.v (.nilFunc)) } ∧
    tyI Try.prog 70 = some { size := 1, bytes := 8, zero := some (.v (.nilFunc)) } ∧
    tyI Try.prog 71 = some { size := 1, bytes := 8, zero := some (.v (.nilFunc)) } ∧
    tyI Try.prog 72 = some { size := 1, bytes := 8, zero := some (.v (.nilFunc)) } ∧
    tyI Try.prog 74 = some { size := 1, bytes := 8, zero := some (.v (.nilFunc)) } ∧
    tyI Try.prog 75 = some { size := 1, bytes := 8, zero := some (.v (.nilFunc)) } ∧
    tyI Try.prog 76 = some { size := 1, bytes := 8, zero := some (.v (.nilFunc)) } ∧
    tyI Try.prog 77 = some { size := 1, bytes := 24, zero := some (.v (.slice none 0 0)) } ∧
    tyI Try.prog 79 = some { size := 1, bytes := 8, zero := some (.v (.nilFunc)) } ∧
    tyI Try.prog 80 = some { size := 1, bytes := 8, zero := some (.v (.nilFunc)) } ∧
    tyI Try.prog 81 = some { size := 1, bytes := 8, zero := some (.v (.nilFunc)) } ∧
    tyI Try.prog 82 = some { size := 1, bytes := 8, zero := some (.v (.nilFunc)) } ∧
    tyI Try.prog 83 = some { size := 1, bytes := 8, zero := some (.v (.nilFunc)) } ∧
    tyI Try.prog 84 = some { size := 1, bytes := 8, zero := some (.v (.nilFunc)) } ∧
    tyI Try.prog 85 = some { size := 1, bytes := 8, zero := some (.v (.map none)) } ∧
    tyI Try.prog 86 = some { size := 1, bytes := 8, zero := some (.v (.nilFunc)) } ∧
    tyI Try.prog 87 = some { size := 1, bytes := 8, zero := some (.v (.nilFunc)) } ∧
    tyI Try.prog 88 = some { size := 1, bytes := 24, zero := some (.agg [.v (.slice none 0 0)]) } ∧
    tyI Try.prog 89 = some { size := 1, bytes := 24, zero := some (.agg [.v (.slice none 0 0)]) } ∧
    tyI Try.prog 90 = some { size := 1, bytes := 24, zero := some (.v (.slice none 0 0)) } ∧
    tyI Try.prog 91 = some { size := 1, bytes := 8, zero := some (.v (.nilFunc)) } ∧
    tyI Try.prog 92 = some { size := 1, bytes := 8, zero := some (.v (.nilFunc)) } ∧
    tyI Try.prog 93 = some { size := 1, bytes := 8, zero := some (.v (.nilFunc)) } ∧
    tyI Try.prog 94 = some { size := 1, bytes := 8, zero := some (.v (.nilFunc)) } ∧
    tyI Try.prog 95 = some { size := 1, bytes := 8, zero := some (.v (.nilFunc)) } ∧
    tyI Try.prog 96 = some { size := 1, bytes := 8, zero := some (.v (.nilFunc)) } ∧
    tyI Try.prog 97 = some { size := 1, bytes := 8, zero := some (.v (.nilFunc)) } ∧
    tyI Try.prog 98 = some { size := 1, bytes := 8, zero := some (.v (.nilFunc)) } ∧
    tyI Try.prog 99 = some { size := 1, bytes := 24, zero := some (.v (.slice none 0 0)) } ∧
    tyI Try.prog 101 = some { size := 1, bytes := 8, zero := some (.v (.nilFunc)) } ∧
    tyI Try.prog 102 = some { size := 1, bytes := 8, zero := some (.v (.nilFunc)) } ∧
    tyI Try.prog 103 = some { size := 1, bytes := 8, zero := some (.v (.nilFunc)) } ∧
    tyI Try.prog 104 = some { size := 1, bytes := 8, zero := some (.v (.pointer none)) } ∧
    tyI Try.prog 105 = some { size := 2, bytes := 16, zero := some (.agg [.v (.map none), .v (.bool false)]) } ∧
    tyI Try.prog 106 = some { size := 2, bytes := 16, zero := some (.agg [.v (.map none), .v (.bool false)]) } ∧
    tyI Try.prog 107 = some { size := 1, bytes := 8, zero := some (.v (.nilFunc)) } ∧
    tyI Try.prog 108 = some { size := 1, bytes := 8, zero := some (.v (.nilFunc)) } ∧
    tyI Try.prog 109 = some { size := 1, bytes := 8, zero := some (.v (.nilFunc)) } ∧
    tyI Try.prog 110 = some { size := 1, bytes := 8, zero := some (.v (.nilFunc)) } ∧
    tyI Try.prog 112 = some { size := 1, bytes := 8, zero := some (.v (.nilFunc)) } ∧
    tyI Try.prog 113 = some { size := 1, bytes := 8, zero := some (.v (.nilFunc)) } ∧
    tyI Try.prog 114 = some { size := 1, bytes := 8, zero := some (.v (.nilFunc)) } ∧
    tyI Try.prog 115 = some { size := 1, bytes := 8, zero := some (.v (.nilFunc)) } ∧
    tyI Try.prog 116 = some { size := 1, bytes := 8, zero := some (.v (.nilFunc)) } ∧
    tyI Try.prog 117 = some { size := 1, bytes := 8, zero := some (.v (.pointer none)) } ∧
    tyI Try.prog 118 = some { size := 1, bytes := 24, zero := some (.agg [.v (.slice none 0 0)]) } ∧
    tyI Try.prog 119 = some { size := 1, bytes := 24, zero := some (.agg [.v (.slice none 0 0)]) } ∧
    tyI Try.prog 120 = some { size := 1, bytes := 8, zero := some (.v (.nilFunc)) } ∧
    tyI Try.prog 121 = some { size := 1, bytes := 8, zero := some (.v (.nilFunc)) } ∧
    tyI Try.prog 122 = some { size := 1, bytes := 8, zero := some (.v (.int .u64 0)) } ∧
    tyI Try.prog 123 = some { size := 1, bytes := 8, zero := some (.v (.pointer none)) } ∧
    tyI Try.prog 124 = some { size := 4, bytes := 32, zero := some (.agg [.v (.pointer none), .v (.pointer none), .v (.pointer none), .v (.pointer none)]) } ∧
    tyI Try.prog 125 = some { size := 4, bytes := 32, zero := some (.agg [.v (.pointer none), .v (.pointer none), .v (.pointer none), .v (.pointer none)]) } ∧
    tyI Try.prog 126 = some { size := 1, bytes := 8, zero := some (.v (.nilFunc)) } ∧
    tyI Try.prog 127 = some { size := 1, bytes := 24, zero := some (.v (.slice none 0 0)) } ∧
    tyI Try.prog 128 = some { size := 1, bytes := 8, zero := some (.v (.nilFunc)) } ∧
    tyI Try.prog 129 = some { size := 1, bytes := 8, zero := some (.v (.nilFunc)) } ∧
    tyI Try.prog 130 = some { size := 1, bytes := 8, zero := some (.v (.nilFunc)) } ∧
    tyI Try.prog 131 = some { size := 3, bytes := 24, zero := some (.agg [.v (.int .i64 0), .v (.int .i64 0), .v (.int .i64 0)]) } ∧
    tyI Try.prog 132 = some { size := 1, bytes := 8, zero := some (.v (.nilFunc)) } ∧
    tyI Try.prog 133 = some { size := 1, bytes := 8, zero := some (.v (.nilFunc)) } ∧
    tyI Try.prog 134 = some { size := 1, bytes := 8, zero := some (.v (.nilFunc)) } ∧
    tyI Try.prog 135 = some { size := 1, bytes := 8, zero := some (.v (.nilFunc)) } ∧
    tyI Try.prog 137 = some { size := 1, bytes := 8, zero := some (.v (.nilFunc)) } ∧
    tyI Try.prog 138 = some { size := 1, bytes := 8, zero := some (.v (.pointer none)) } ∧
    tyI Try.prog 139 = some { size := 1, bytes := 8, zero := some (.v (.pointer none)) } ∧
    tyI Try.prog 140 = some { size := 1, bytes := 8, zero := some (.v (.nilFunc)) } ∧
    tyI Try.prog 141 = some { size := 1, bytes := 24, zero := some (.v (.slice none 0 0)) } ∧
    tyI Try.prog 142 = some { size := 4, bytes := 96, zero := some (.agg [.v (.slice none 0 0), .v (.slice none 0 0), .v (.slice none 0 0), .v (.slice none 0 0)]) } ∧
    tyI Try.prog 143 = some { size := 12, bytes := 160, zero := some (.agg [.v (.pointer none), .v (.int .i64 0), .v (.pointer none), .v (.pointer none), .v (.pointer none), .v (.pointer none), .v (.slice none 0 0), .v (.slice none 0 0), .v (.slice none 0 0), .v (.slice none 0 0), .v (.int .i64 0), .v (.bool false)]) } ∧
    tyI Try.prog 144 = some { size := 12, bytes := 160, zero := some (.agg [.v (.pointer none), .v (.int .i64 0), .v (.pointer none), .v (.pointer none), .v (.pointer none), .v (.pointer none), .v (.slice none 0 0), .v (.slice none 0 0), .v (.slice none 0 0), .v (.slice none 0 0), .v (.int .i64 0), .v (.bool false)]) } ∧
    tyI Try.prog 145 = some { size := 1, bytes := 8, zero := some (.v (.nilFunc)) } ∧
    tyI Try.prog 146 = some { size := 1, bytes := 8, zero := some (.v (.nilFunc)) } ∧
    tyI Try.prog 147 = some { size := 1, bytes := 8, zero := some (.v (.nilFunc)) } ∧
    tyI Try.prog 149 = some { size := 1, bytes := 8, zero := some (.v (.nilFunc)) } ∧
    tyI Try.prog 150 = some { size := 1, bytes := 8, zero := some (.v (.nilFunc)) } ∧
    tyI Try.prog 151 = some { size := 1, bytes := 8, zero := some (.v (.nilFunc)) } ∧
    tyI Try.prog 152 = some { size := 1, bytes := 8, zero := some (.v (.nilFunc)) } ∧
    tyI Try.prog 153 = some { size := 1, bytes := 8, zero := some (.v (.nilFunc)) } ∧
    tyI Try.prog 154 = some { size := 1, bytes := 8, zero := some (.v (.nilFunc)) } ∧
    tyI Try.prog 155 = some { size := 1, bytes := 8, zero := some (.v (.nilFunc)) } ∧
    tyI Try.prog 156 = some { size := 1, bytes := 8, zero := some (.v (.int .u64 0)) } ∧
    tyI Try.prog 157 = some { size := 1, bytes := 8, zero := some (.v (.nilFunc)) } ∧
    tyI Try.prog 158 = some { size := 1, bytes := 8, zero := some (.v (.nilFunc)) } ∧
    tyI Try.prog 159 = some { size := 1, bytes := 8, zero := some (.v (.nilFunc)) } ∧
    tyI Try.prog 160 = some { size := 1, bytes := 8, zero := some (.v (.nilFunc)) } ∧
    tyI Try.prog 161 = some { size := 1, bytes := 8, zero := some (.v (.nilFunc)) } ∧
    tyI Try.prog 162 = some { size := 1, bytes := 8, zero := some (.v (.nilFunc)) } ∧
    tyI Try.prog 163 = some { size := 1, bytes := 8, zero := some (.v (.pointer none)) } ∧
    tyI Try.prog 164 = some { size := 2, bytes := 32, zero := some (.agg [.v (.slice none 0 0), .v (.pointer none)]) } ∧
    tyI Try.prog 165 = some { size := 2, bytes := 32, zero := some (.agg [.v (.slice none 0 0), .v (.pointer none)]) } ∧
    tyI Try.prog 167 = some { size := 1, bytes := 8, zero := some (.v (.nilFunc)) } ∧
    tyI Try.prog 168 = some { size := 1, bytes := 8, zero := some (.v (.nilFunc)) } ∧
    tyI Try.prog 169 = some { size := 1, bytes := 8, zero := some (.v (.nilFunc)) } ∧
    tyI Try.prog 170 = some { size := 1, bytes := 8, zero := some (.v (.nilFunc)) } ∧
    tyI Try.prog 171 = some { size := 1, bytes := 8, zero := some (.v (.nilFunc)) } ∧
    tyI Try.prog 172 = some { size := 1, bytes := 8, zero := some (.v (.nilFunc)) } ∧
    tyI Try.prog 173 = some { size := 1, bytes := 8, zero := some (.v (.nilFunc)) } ∧
    tyI Try.prog 174 = some { size := 1, bytes := 8, zero := some (.v (.nilFunc)) } ∧
    tyI Try.prog 175 = some { size := 2, bytes := 32, zero := some (.agg [.v (.slice none 0 0), .v (.int .i64 0)]) } ∧
    tyI Try.prog 176 = some { size := 2, bytes := 32, zero := some (.agg [.v (.slice none 0 0), .v (.int .i64 0)]) } ∧
    tyI Try.prog 177 = some { size := 1, bytes := 8, zero := some (.v (.nilFunc)) } ∧
    tyI Try.prog 178 = some { size := 1, bytes := 8, zero := some (.v (.nilFunc)) } ∧
    tyI Try.prog 179 = some { size := 1, bytes := 8, zero := some (.v (.nilFunc)) } ∧
    tyI Try.prog 180 = some { size := 1, bytes := 8, zero := some (.v (.nilFunc)) } ∧
    tyI Try.prog 181 = some { size := 1, bytes := 8, zero := some (.v (.nilFunc)) } ∧
    tyI Try.prog 182 = some { size := 1, bytes := 8, zero := some (.v (.nilFunc)) } ∧
    tyI Try.prog 183 = some { size := 1, bytes := 24, zero := some (.v (.slice none 0 0)) } ∧
    tyI Try.prog 184 = some { size := 1, bytes := 8, zero := some (.v (.nilFunc)) } ∧
    tyI Try.prog 185 = some { size := 1, bytes := 8, zero := some (.v (.nilFunc)) } ∧
    tyI Try.prog 186 = some { size := 1, bytes := 8, zero := some (.v (.nilFunc)) } ∧
    tyI Try.prog 187 = some { size := 1, bytes := 8, zero := some (.v (.nilFunc)) } ∧
    tyI Try.prog 188 = some { size := 1, bytes := 8, zero := some (.v (.nilFunc)) } ∧
    tyI Try.prog 189 = some { size := 1, bytes := 8, zero := some (.v (.nilFunc)) } ∧
    tyI Try.prog 190 = some { size := 1, bytes := 8, zero := some (.v (.nilFunc)) } ∧
    tyI Try.prog 191 = some { size := 2, bytes := 24, zero := some (.agg [.v (.string ⟨#[]⟩), .v (.int .i64 0)]) } ∧
    tyI Try.prog 192 = some { size := 2, bytes := 24, zero := some (.agg [.v (.string ⟨#[]⟩), .v (.int .i64 0)]) } ∧
    tyI Try.prog 193 = some { size := 1, bytes := 24, zero := some (.v (.slice none 0 0)) } ∧
    tyI Try.prog 194 = some { size := 1, bytes := 24, zero := some (.agg [.v (.slice none 0 0)]) } ∧
    tyI Try.prog 195 = some { size := 1, bytes := 24, zero := some (.agg [.v (.slice none 0 0)]) } ∧
    tyI Try.prog 196 = some { size := 1, bytes := 4, zero := some (.v (.int .u32 0)) } ∧
    tyI Try.prog 197 = some { size := 1, bytes := 8, zero := some (.v (.nilFunc)) } ∧
    tyI Try.prog 198 = some { size := 1, bytes := 8, zero := some (.v (.nilFunc)) } ∧
    tyI Try.prog 199 = some { size := 1, bytes := 8, zero := some (.v (.nilFunc)) } ∧
    tyI Try.prog 200 = some { size := 1, bytes := 8, zero := some (.v (.nilFunc)) } ∧
    tyI Try.prog 202 = some { size := 1, bytes := 8, zero := some (.v (.nilFunc)) } ∧
    tyI Try.prog 203 = some { size := 1, bytes := 8, zero := some (.v (.int .i64 0)) } ∧
    tyI Try.prog 205 = some { size := 1, bytes := 8, zero := some (.v (.nilFunc)) } ∧
    tyI Try.prog 206 = some { size := 1, bytes := 8, zero := some (.v (.nilFunc)) } ∧
    tyI Try.prog 207 = some { size := 1, bytes := 8, zero := some (.v (.nilFunc)) } ∧
    tyI Try.prog 208 = some { size := 1, bytes := 8, zero := some (.v (.nilFunc)) } ∧
    tyI Try.prog 209 = some { size := 1, bytes := 8, zero := some (.v (.nilFunc)) } ∧
    tyI Try.prog 210 = some { size := 1, bytes := 8, zero := some (.v (.nilFunc)) } ∧
    tyI Try.prog 211 = some { size := 1, bytes := 8, zero := some (.v (.nilFunc)) } ∧
    tyI Try.prog 212 = some { size := 1, bytes := 8, zero := some (.v (.nilFunc)) } ∧
    tyI Try.prog 213 = some { size := 1, bytes := 8, zero := some (.v (.nilFunc)) } ∧
    tyI Try.prog 214 = some { size := 1, bytes := 8, zero := some (.v (.nilFunc)) } ∧
    tyI Try.prog 215 = some { size := 1, bytes := 8, zero := some (.v (.int .u64 0)) } ∧
    tyI Try.prog 216 = some { size := 1, bytes := 8, zero := some (.v (.nilFunc)) } ∧
    tyI Try.prog 217 = some { size := 1, bytes := 8, zero := some (.v (.nilFunc)) } ∧
    tyI Try.prog 218 = some { size := 1, bytes := 8, zero := some (.v (.pointer none)) } ∧
    tyI Try.prog 219 = some { size := 1, bytes := 8, zero := some (.v (.nilFunc)) } ∧
    tyI Try.prog 220 = some { size := 1, bytes := 8, zero := some (.v (.nilFunc)) } ∧
    tyI Try.prog 221 = some { size := 1, bytes := 8, zero := some (.v (.nilFunc)) } ∧
    tyI Try.prog 222 = some { size := 1, bytes := 8, zero := some (.v (.nilFunc)) } ∧
    tyI Try.prog 223 = some { size := 1, bytes := 8, zero := some (.v (.pointer none)) } ∧
    tyI Try.prog 225 = some { size := 1, bytes := 8, zero := some (.v (.nilFunc)) } ∧
    tyI Try.prog 226 = some { size := 1, bytes := 8, zero := some (.v (.nilFunc)) } ∧
    tyI Try.prog 227 = some { size := 1, bytes := 8, zero := some (.v (.nilFunc)) } ∧
    tyI Try.prog 228 = some { size := 4, bytes := 40, zero := some (.agg [.v (.pointer none), .v (.pointer none), .v (.pointer none), .v (.string ⟨#[]⟩)]) } ∧
    tyI Try.prog 229 = some { size := 4, bytes := 40, zero := some (.agg [.v (.pointer none), .v (.pointer none), .v (.pointer none), .v (.string ⟨#[]⟩)]) } ∧
    tyI Try.prog 233 = some { size := 1, bytes := 1, zero := some (.v (.int .u8 0)) } ∧
    tyI Try.prog 234 = some { size := 1, bytes := 1, zero := some (.v (.int .u8 0)) } ∧
    tyI Try.prog 235 = some { size := 1, bytes := 8, zero := some (.v (.nilFunc)) } ∧
    tyI Try.prog 236 = some { size := 1, bytes := 8, zero := some (.v (.pointer none)) } ∧
    tyI Try.prog 237 = some { size := 1, bytes := 4, zero := some (.v (.int .i32 0)) } ∧
    tyI Try.prog 238 = some { size := 1, bytes := 4, zero := some (.v (.int .i32 0)) } ∧
    tyI Try.prog 239 = some { size := 11, bytes := 48, zero := some (.agg [.v (.int .u64 0), .v (.int .u64 0), .v (.int .u32 0), .v (.int .u8 0), .v (.int .u8 0), .v (.int .u8 0), .v (.int .u8 0), .v (.nilFunc), .v (.pointer none), .v (.int .i32 0), .v (.int .i32 0)]) } ∧
    tyI Try.prog 240 = some { size := 11, bytes := 48, zero := some (.agg [.v (.int .u64 0), .v (.int .u64 0), .v (.int .u32 0), .v (.int .u8 0), .v (.int .u8 0), .v (.int .u8 0), .v (.int .u8 0), .v (.nilFunc), .v (.pointer none), .v (.int .i32 0), .v (.int .i32 0)]) } ∧
    tyI Try.prog 241 = some { size := 1, bytes := 8, zero := some (.v (.pointer none)) } := by
  refine ⟨?_, ?_, ?_, ?_, ?_, ?_, ?_, ?_, ?_, ?_, ?_, ?_, ?_, ?_, ?_, ?_, ?_, ?_, ?_, ?_, ?_, ?_, ?_, ?_, ?_, ?_, ?_, ?_, ?_, ?_, ?_, ?_, ?_, ?_, ?_, ?_, ?_, ?_, ?_, ?_, ?_, ?_, ?_, ?_, ?_, ?_, ?_, ?_, ?_, ?_, ?_, ?_, ?_, ?_, ?_, ?_, ?_, ?_, ?_, ?_, ?_, ?_, ?_, ?_, ?_, ?_, ?_, ?_, ?_, ?_, ?_, ?_, ?_, ?_, ?_, ?_, ?_, ?_, ?_, ?_, ?_, ?_, ?_, ?_, ?_, ?_, ?_, ?_, ?_, ?_, ?_, ?_, ?_, ?_, ?_, ?_, ?_, ?_, ?_, ?_, ?_, ?_, ?_, ?_, ?_, ?_, ?_, ?_, ?_, ?_, ?_, ?_, ?_, ?_, ?_, ?_, ?_, ?_, ?_, ?_, ?_, ?_, ?_, ?_, ?_, ?_, ?_, ?_, ?_, ?_, ?_, ?_, ?_, ?_, ?_, ?_, ?_, ?_, ?_, ?_, ?_, ?_, ?_, ?_, ?_, ?_, ?_, ?_, ?_, ?_, ?_, ?_, ?_, ?_, ?_, ?_, ?_, ?_, ?_, ?_, ?_, ?_, ?_, ?_, ?_, ?_, ?_, ?_, ?_, ?_, ?_, ?_, ?_, ?_, ?_, ?_, ?_, ?_, ?_, ?_, ?_, ?_, ?_, ?_, ?_, ?_, ?_, ?_, ?_, ?_, ?_, ?_, ?_, ?_, ?_, ?_, ?_, ?_, ?_, ?_, ?_, ?_, ?_, ?_, ?_, ?_, ?_, ?_, ?_, ?_, ?_, ?_, ?_, ?_, ?_, ?_, ?_, ?_, ?_, ?_, ?_, ?_, ?_, ?_, ?_⟩ <;> kernel_rfl
noncomputable def pkOf (t i : Nat) : String := (((Try.prog.fieldsOf t)[i]?).map (·.pkgPath)).getD ""

theorem unders :
    Try.prog.underlying 0 = some (TypeDesc.tuple #[]) ∧
    Try.prog.underlying 1 = some (TypeDesc.func #[] #[] false) ∧
    Try.prog.underlying 2 = some (TypeDesc.int IntKind.i64) ∧
    Try.prog.underlying 3 = some (TypeDesc.int IntKind.i64) ∧
    Try.prog.underlying 4 = some TypeDesc.bool ∧
    Try.prog.underlying 5 = some (TypeDesc.int IntKind.u8) ∧
    Try.prog.underlying 6 = some (TypeDesc.int IntKind.u8) ∧
    Try.prog.underlying 7 = some (TypeDesc.struct #[{ name := "x", type := 2, offset := 0, embedded := false, tag := "", pkgPath := "runtime", byteOffset := 0 }, { name := "y", type := 3, offset := 1, embedded := false, tag := "", pkgPath := "runtime", byteOffset := 8 }, { name := "signed", type := 4, offset := 2, embedded := false, tag := "", pkgPath := "runtime", byteOffset := 16 }, { name := "code", type := 6, offset := 3, embedded := false, tag := "", pkgPath := "runtime", byteOffset := 17 }]) ∧
    Try.prog.underlying 8 = some (TypeDesc.struct #[{ name := "x", type := 2, offset := 0, embedded := false, tag := "", pkgPath := "runtime", byteOffset := 0 }, { name := "y", type := 3, offset := 1, embedded := false, tag := "", pkgPath := "runtime", byteOffset := 8 }, { name := "signed", type := 4, offset := 2, embedded := false, tag := "", pkgPath := "runtime", byteOffset := 16 }, { name := "code", type := 6, offset := 3, embedded := false, tag := "", pkgPath := "runtime", byteOffset := 17 }]) ∧
    Try.prog.underlying 9 = some TypeDesc.string ∧
    Try.prog.underlying 10 = some TypeDesc.string ∧
    Try.prog.underlying 11 = some TypeDesc.string ∧
    Try.prog.underlying 12 = some (TypeDesc.int IntKind.u64) ∧
    Try.prog.underlying 13 = some (TypeDesc.struct #[{ name := "msg", type := 9, offset := 0, embedded := false, tag := "", pkgPath := "runtime", byteOffset := 0 }, { name := "addr", type := 12, offset := 1, embedded := false, tag := "", pkgPath := "runtime", byteOffset := 16 }]) ∧
    Try.prog.underlying 14 = some (TypeDesc.struct #[{ name := "msg", type := 9, offset := 0, embedded := false, tag := "", pkgPath := "runtime", byteOffset := 0 }, { name := "addr", type := 12, offset := 1, embedded := false, tag := "", pkgPath := "runtime", byteOffset := 16 }]) ∧
    Try.prog.underlying 15 = some (TypeDesc.pointer 229) ∧
    Try.prog.underlying 16 = some (TypeDesc.pointer 232) ∧
    Try.prog.underlying 17 = some (TypeDesc.pointer 240) ∧
    Try.prog.underlying 18 = some (TypeDesc.struct #[{ name := "typ", type := 17, offset := 0, embedded := false, tag := "", pkgPath := pkOf 18 0, byteOffset := 0 }]) ∧
    Try.prog.underlying 19 = some (TypeDesc.struct #[{ name := "typ", type := 17, offset := 0, embedded := false, tag := "", pkgPath := pkOf 19 0, byteOffset := 0 }]) ∧
    Try.prog.underlying 20 = some (TypeDesc.interface #[]) ∧
    Try.prog.underlying 21 = some (TypeDesc.int IntKind.i32) ∧
    Try.prog.underlying 22 = some (TypeDesc.slice 41) ∧
    Try.prog.underlying 23 = some (TypeDesc.slice 66) ∧
    Try.prog.underlying 24 = some (TypeDesc.func #[22] #[4] false) ∧
    Try.prog.underlying 25 = some (TypeDesc.func #[23] #[4] false) ∧
    Try.prog.underlying 26 = some (TypeDesc.func #[] #[4] false) ∧
    Try.prog.underlying 27 = some (TypeDesc.pointer 89) ∧
    Try.prog.underlying 28 = some (TypeDesc.int IntKind.i64) ∧
    Try.prog.underlying 29 = some (TypeDesc.tuple #[27, 28]) ∧
    Try.prog.underlying 30 = some (TypeDesc.func #[22] #[27, 28] false) ∧
    Try.prog.underlying 31 = some (TypeDesc.tuple #[23, 28]) ∧
    Try.prog.underlying 32 = some (TypeDesc.func #[22] #[23, 28] false) ∧
    Try.prog.underlying 33 = some (TypeDesc.func #[23, 23] #[4] false) ∧
    Try.prog.underlying 34 = some (TypeDesc.func #[27] #[23] false) ∧
    Try.prog.underlying 35 = some (TypeDesc.func #[23] #[27, 28] false) ∧
    Try.prog.underlying 36 = some (TypeDesc.func #[22, 23] #[4] false) ∧
    Try.prog.underlying 37 = some (TypeDesc.array 4 9) ∧
    Try.prog.underlying 38 = some (TypeDesc.struct #[{ name := "Hour", type := 2, offset := 0, embedded := false, tag := "", pkgPath := "", byteOffset := 0 }, { name := "Dims", type := 37, offset := 1, embedded := false, tag := "", pkgPath := "", byteOffset := 8 }]) ∧
    Try.prog.underlying 39 = some (TypeDesc.struct #[{ name := "Hour", type := 2, offset := 0, embedded := false, tag := "", pkgPath := "", byteOffset := 0 }, { name := "Dims", type := 37, offset := 1, embedded := false, tag := "", pkgPath := "", byteOffset := 8 }]) ∧
    Try.prog.underlying 40 = some (TypeDesc.struct #[{ name := "Key", type := 39, offset := 0, embedded := false, tag := "", pkgPath := "", byteOffset := 0 }, { name := "Value", type := 2, offset := 5, embedded := false, tag := "", pkgPath := "", byteOffset := 72 }]) ∧
    Try.prog.underlying 41 = some (TypeDesc.struct #[{ name := "Key", type := 39, offset := 0, embedded := false, tag := "", pkgPath := "", byteOffset := 0 }, { name := "Value", type := 2, offset := 5, embedded := false, tag := "", pkgPath := "", byteOffset := 72 }]) ∧
    Try.prog.underlying 42 = some (TypeDesc.func #[99] #[27, 28] true) ∧
    Try.prog.underlying 43 = some (TypeDesc.struct #[{ name := "Count", type := 2, offset := 0, embedded := false, tag := "", pkgPath := "", byteOffset := 0 }, { name := "Sum", type := 2, offset := 1, embedded := false, tag := "", pkgPath := "", byteOffset := 8 }, { name := "Min", type := 2, offset := 2, embedded := false, tag := "", pkgPath := "", byteOffset := 16 }, { name := "Max", type := 2, offset := 3, embedded := false, tag := "", pkgPath := "", byteOffset := 24 }]) ∧
    Try.prog.underlying 44 = some (TypeDesc.struct #[{ name := "Count", type := 2, offset := 0, embedded := false, tag := "", pkgPath := "", byteOffset := 0 }, { name := "Sum", type := 2, offset := 1, embedded := false, tag := "", pkgPath := "", byteOffset := 8 }, { name := "Min", type := 2, offset := 2, embedded := false, tag := "", pkgPath := "", byteOffset := 16 }, { name := "Max", type := 2, offset := 3, embedded := false, tag := "", pkgPath := "", byteOffset := 24 }]) ∧
    Try.prog.underlying 45 = some (TypeDesc.tuple #[44, 4]) ∧
    Try.prog.underlying 46 = some (TypeDesc.func #[] #[44, 4] false) ∧
    Try.prog.underlying 47 = some (TypeDesc.func #[27] #[4] false) ∧
    Try.prog.underlying 48 = some (TypeDesc.func #[22, 3] #[4] false) ∧
    Try.prog.underlying 49 = some (TypeDesc.slice 23) ∧
    Try.prog.underlying 50 = some (TypeDesc.func #[23] #[27] false) ∧
    Try.prog.underlying 51 = some (TypeDesc.func #[49] #[23, 28] false) ∧
    Try.prog.underlying 52 = some (TypeDesc.func #[23, 23, 23] #[4] false) ∧
    Try.prog.underlying 53 = some (TypeDesc.array 4 4) ∧
    Try.prog.underlying 54 = some (TypeDesc.struct #[{ name := "From", type := 2, offset := 0, embedded := false, tag := "", pkgPath := "", byteOffset := 0 }, { name := "To", type := 2, offset := 1, embedded := false, tag := "", pkgPath := "", byteOffset := 8 }, { name := "Group", type := 53, offset := 2, embedded := false, tag := "", pkgPath := "", byteOffset := 16 }, { name := "Has", type := 53, offset := 6, embedded := false, tag := "", pkgPath := "", byteOffset := 20 }, { name := "Filter", type := 37, offset := 10, embedded := false, tag := "", pkgPath := "", byteOffset := 24 }]) ∧
    Try.prog.underlying 55 = some (TypeDesc.struct #[{ name := "From", type := 2, offset := 0, embedded := false, tag := "", pkgPath := "", byteOffset := 0 }, { name := "To", type := 2, offset := 1, embedded := false, tag := "", pkgPath := "", byteOffset := 8 }, { name := "Group", type := 53, offset := 2, embedded := false, tag := "", pkgPath := "", byteOffset := 16 }, { name := "Has", type := 53, offset := 6, embedded := false, tag := "", pkgPath := "", byteOffset := 20 }, { name := "Filter", type := 37, offset := 10, embedded := false, tag := "", pkgPath := "", byteOffset := 24 }]) ∧
    Try.prog.underlying 56 = some (TypeDesc.func #[55] #[4] false) ∧
    Try.prog.underlying 57 = some (TypeDesc.func #[55, 22] #[23, 28] false) ∧
    Try.prog.underlying 58 = some (TypeDesc.func #[49] #[23, 28] true) ∧
    Try.prog.underlying 59 = some (TypeDesc.func #[55, 27] #[23, 28] false) ∧
    Try.prog.underlying 60 = some (TypeDesc.func #[55, 22, 3] #[4] false) ∧
    Try.prog.underlying 61 = some (TypeDesc.func #[55, 23] #[23, 28] false) ∧
    Try.prog.underlying 62 = some (TypeDesc.func #[55, 23] #[4] false) ∧
    Try.prog.underlying 63 = some (TypeDesc.func #[23, 2, 2] #[23] false) ∧
    Try.prog.underlying 64 = some (TypeDesc.func #[39] #[44, 4] false) ∧
    Try.prog.underlying 65 = some (TypeDesc.struct #[{ name := "Key", type := 39, offset := 0, embedded := false, tag := "", pkgPath := "", byteOffset := 0 }, { name := "Cell", type := 44, offset := 5, embedded := false, tag := "", pkgPath := "", byteOffset := 72 }]) ∧
    Try.prog.underlying 66 = some (TypeDesc.struct #[{ name := "Key", type := 39, offset := 0, embedded := false, tag := "", pkgPath := "", byteOffset := 0 }, { name := "Cell", type := 44, offset := 5, embedded := false, tag := "", pkgPath := "", byteOffset := 72 }]) ∧
    Try.prog.underlying 67 = some (TypeDesc.func #[23] #[44, 4] false) ∧
    Try.prog.underlying 68 = some (TypeDesc.func #[2, 2] #[27] false) ∧
    Try.prog.underlying 69 = some (TypeDesc.func #[160] #[] false) ∧
    Try.prog.underlying 70 = some (TypeDesc.func #[160] #[] false) ∧
    Try.prog.underlying 71 = some (TypeDesc.func #[2, 2] #[70] false) ∧
    Try.prog.underlying 72 = some (TypeDesc.func #[23, 2, 2, 39, 3] #[4] false) ∧
    Try.prog.underlying 73 = some (TypeDesc.tuple #[66, 4]) ∧
    Try.prog.underlying 74 = some (TypeDesc.func #[3] #[66, 4] false) ∧
    Try.prog.underlying 75 = some (TypeDesc.func #[] #[3] false) ∧
    Try.prog.underlying 76 = some (TypeDesc.func #[39, 2, 2, 3] #[4] false) ∧
    Try.prog.underlying 77 = some (TypeDesc.slice 5) ∧
    Try.prog.underlying 78 = some (TypeDesc.tuple #[77, 28]) ∧
    Try.prog.underlying 79 = some (TypeDesc.func #[27, 3] #[77, 28] false) ∧
    Try.prog.underlying 80 = some (TypeDesc.func #[23, 3] #[77, 28] false) ∧
    Try.prog.underlying 81 = some (TypeDesc.func #[77, 77] #[4] false) ∧
    Try.prog.underlying 82 = some (TypeDesc.func #[23, 3] #[4] false) ∧
    Try.prog.underlying 83 = some (TypeDesc.func #[77, 3] #[27, 28] false) ∧
    Try.prog.underlying 84 = some (TypeDesc.func #[23, 77, 3, 3] #[4] false) ∧
    Try.prog.underlying 85 = some (TypeDesc.map 39 44) ∧
    Try.prog.underlying 86 = some (TypeDesc.func #[44, 44] #[44, 4] false) ∧
    Try.prog.underlying 87 = some (TypeDesc.func #[2] #[44] false) ∧
    Try.prog.underlying 88 = some (TypeDesc.struct #[{ name := "l", type := 23, offset := 0, embedded := false, tag := "", pkgPath := pkOf 88 0, byteOffset := 0 }]) ∧
    Try.prog.underlying 89 = some (TypeDesc.struct #[{ name := "l", type := 23, offset := 0, embedded := false, tag := "", pkgPath := pkOf 89 0, byteOffset := 0 }]) ∧
    Try.prog.underlying 90 = some (TypeDesc.slice 39) ∧
    Try.prog.underlying 91 = some (TypeDesc.func #[93, 95] #[90] false) ∧
    Try.prog.underlying 92 = some (TypeDesc.func #[152] #[] false) ∧
    Try.prog.underlying 93 = some (TypeDesc.func #[152] #[] false) ∧
    Try.prog.underlying 94 = some (TypeDesc.func #[85] #[93] false) ∧
    Try.prog.underlying 95 = some (TypeDesc.func #[39, 39] #[3] false) ∧
    Try.prog.underlying 96 = some (TypeDesc.func #[23, 66] #[23, 28] false) ∧
    Try.prog.underlying 97 = some (TypeDesc.func #[44] #[4] false) ∧
    Try.prog.underlying 98 = some (TypeDesc.func #[23] #[23] false) ∧
    Try.prog.underlying 99 = some (TypeDesc.slice 27) ∧
    Try.prog.underlying 100 = some (TypeDesc.tuple #[23, 4]) ∧
    Try.prog.underlying 101 = some (TypeDesc.func #[23, 23] #[23, 4] false) ∧
    Try.prog.underlying 102 = some (TypeDesc.func #[] #[23] false) ∧
    Try.prog.underlying 103 = some (TypeDesc.func #[55, 3] #[28] false) ∧
    Try.prog.underlying 104 = some (TypeDesc.pointer 106) ∧
    Try.prog.underlying 105 = some (TypeDesc.struct #[{ name := "at", type := 85, offset := 0, embedded := false, tag := "", pkgPath := pkOf 105 0, byteOffset := 0 }, { name := "over", type := 4, offset := 1, embedded := false, tag := "", pkgPath := pkOf 105 1, byteOffset := 8 }]) ∧
    Try.prog.underlying 106 = some (TypeDesc.struct #[{ name := "at", type := 85, offset := 0, embedded := false, tag := "", pkgPath := pkOf 106 0, byteOffset := 0 }, { name := "over", type := 4, offset := 1, embedded := false, tag := "", pkgPath := pkOf 106 1, byteOffset := 8 }]) ∧
    Try.prog.underlying 107 = some (TypeDesc.func #[39, 44] #[] false) ∧
    Try.prog.underlying 108 = some (TypeDesc.func #[55, 39] #[4] false) ∧
    Try.prog.underlying 109 = some (TypeDesc.func #[55, 39] #[39] false) ∧
    Try.prog.underlying 110 = some (TypeDesc.func #[] #[23, 28] false) ∧
    Try.prog.underlying 111 = some (TypeDesc.tuple #[3, 4]) ∧
    Try.prog.underlying 112 = some (TypeDesc.func #[23, 39, 113] #[3, 4] false) ∧
    Try.prog.underlying 113 = some (TypeDesc.func #[66, 39] #[3] false) ∧
    Try.prog.underlying 114 = some (TypeDesc.func #[2, 2] #[23] false) ∧
    Try.prog.underlying 115 = some (TypeDesc.func #[23] #[70] false) ∧
    Try.prog.underlying 116 = some (TypeDesc.func #[27, 3] #[28] false) ∧
    Try.prog.underlying 117 = some (TypeDesc.pointer 119) ∧
    Try.prog.underlying 118 = some (TypeDesc.struct #[{ name := "b", type := 77, offset := 0, embedded := false, tag := "", pkgPath := pkOf 118 0, byteOffset := 0 }]) ∧
    Try.prog.underlying 119 = some (TypeDesc.struct #[{ name := "b", type := 77, offset := 0, embedded := false, tag := "", pkgPath := pkOf 119 0, byteOffset := 0 }]) ∧
    Try.prog.underlying 120 = some (TypeDesc.func #[122] #[117] false) ∧
    Try.prog.underlying 121 = some (TypeDesc.func #[2] #[117] false) ∧
    Try.prog.underlying 122 = some (TypeDesc.int IntKind.u64) ∧
    Try.prog.underlying 123 = some (TypeDesc.pointer 165) ∧
    Try.prog.underlying 124 = some (TypeDesc.array 4 123) ∧
    Try.prog.underlying 125 = some (TypeDesc.array 4 123) ∧
    Try.prog.underlying 126 = some (TypeDesc.func #[27, 3] #[123] false) ∧
    Try.prog.underlying 127 = some (TypeDesc.slice 9) ∧
    Try.prog.underlying 128 = some (TypeDesc.func #[27, 3] #[127] false) ∧
    Try.prog.underlying 129 = some (TypeDesc.func #[9] #[117] false) ∧
    Try.prog.underlying 130 = some (TypeDesc.func #[9] #[3, 4] false) ∧
    Try.prog.underlying 131 = some (TypeDesc.array 3 2) ∧
    Try.prog.underlying 132 = some (TypeDesc.func #[77] #[77] false) ∧
    Try.prog.underlying 133 = some (TypeDesc.func #[] #[77] false) ∧
    Try.prog.underlying 134 = some (TypeDesc.func #[23, 3] #[28] false) ∧
    Try.prog.underlying 135 = some (TypeDesc.func #[23, 3] #[77] false) ∧
    Try.prog.underlying 136 = some (TypeDesc.tuple #[77, 3, 28]) ∧
    Try.prog.underlying 137 = some (TypeDesc.func #[77] #[77, 3, 28] false) ∧
    Try.prog.underlying 138 = some (TypeDesc.pointer 144) ∧
    Try.prog.underlying 139 = some (TypeDesc.pointer 176) ∧
    Try.prog.underlying 140 = some (TypeDesc.func #[77] #[139] false) ∧
    Try.prog.underlying 141 = some (TypeDesc.slice 4) ∧
    Try.prog.underlying 142 = some (TypeDesc.array 4 141) ∧
    Try.prog.underlying 143 = some (TypeDesc.struct #[{ name := "Reader", type := 139, offset := 0, embedded := true, tag := "", pkgPath := "", byteOffset := 0 }, { name := "dims", type := 3, offset := 1, embedded := false, tag := "", pkgPath := pkOf 143 1, byteOffset := 8 }, { name := "codes", type := 125, offset := 2, embedded := false, tag := "", pkgPath := pkOf 143 2, byteOffset := 16 }, { name := "used", type := 142, offset := 6, embedded := false, tag := "", pkgPath := pkOf 143 3, byteOffset := 48 }, { name := "hour", type := 2, offset := 10, embedded := false, tag := "", pkgPath := pkOf 143 4, byteOffset := 144 }, { name := "wrong", type := 4, offset := 11, embedded := false, tag := "", pkgPath := pkOf 143 5, byteOffset := 152 }]) ∧
    Try.prog.underlying 144 = some (TypeDesc.struct #[{ name := "Reader", type := 139, offset := 0, embedded := true, tag := "", pkgPath := "", byteOffset := 0 }, { name := "dims", type := 3, offset := 1, embedded := false, tag := "", pkgPath := pkOf 144 1, byteOffset := 8 }, { name := "codes", type := 125, offset := 2, embedded := false, tag := "", pkgPath := pkOf 144 2, byteOffset := 16 }, { name := "used", type := 142, offset := 6, embedded := false, tag := "", pkgPath := pkOf 144 3, byteOffset := 48 }, { name := "hour", type := 2, offset := 10, embedded := false, tag := "", pkgPath := pkOf 144 4, byteOffset := 144 }, { name := "wrong", type := 4, offset := 11, embedded := false, tag := "", pkgPath := pkOf 144 5, byteOffset := 152 }]) ∧
    Try.prog.underlying 145 = some (TypeDesc.func #[3] #[3] false) ∧
    Try.prog.underlying 146 = some (TypeDesc.func #[] #[66] false) ∧
    Try.prog.underlying 147 = some (TypeDesc.func #[] #[28] false) ∧
    Try.prog.underlying 148 = some (TypeDesc.tuple #[2, 4]) ∧
    Try.prog.underlying 149 = some (TypeDesc.func #[2, 2] #[2, 4] false) ∧
    Try.prog.underlying 150 = some (TypeDesc.func #[93] #[90] false) ∧
    Try.prog.underlying 151 = some (TypeDesc.func #[90, 95] #[] false) ∧
    Try.prog.underlying 152 = some (TypeDesc.func #[39] #[4] false) ∧
    Try.prog.underlying 153 = some (TypeDesc.func #[183] #[3] true) ∧
    Try.prog.underlying 154 = some (TypeDesc.func #[2, 2] #[3] false) ∧
    Try.prog.underlying 155 = some (TypeDesc.func #[127, 127] #[3] false) ∧
    Try.prog.underlying 156 = some (TypeDesc.int IntKind.u64) ∧
    Try.prog.underlying 157 = some (TypeDesc.func #[3, 158] #[3] false) ∧
    Try.prog.underlying 158 = some (TypeDesc.func #[3] #[4] false) ∧
    Try.prog.underlying 159 = some (TypeDesc.func #[2] #[3] false) ∧
    Try.prog.underlying 160 = some (TypeDesc.func #[66] #[4] false) ∧
    Try.prog.underlying 161 = some (TypeDesc.func #[27, 160] #[] false) ∧
    Try.prog.underlying 162 = some (TypeDesc.func #[127] #[123] false) ∧
    Try.prog.underlying 163 = some (TypeDesc.pointer 195) ∧
    Try.prog.underlying 164 = some (TypeDesc.struct #[{ name := "l", type := 127, offset := 0, embedded := false, tag := "", pkgPath := pkOf 164 0, byteOffset := 0 }, { name := "codes", type := 163, offset := 1, embedded := false, tag := "", pkgPath := pkOf 164 1, byteOffset := 24 }]) ∧
    Try.prog.underlying 165 = some (TypeDesc.struct #[{ name := "l", type := 127, offset := 0, embedded := false, tag := "", pkgPath := pkOf 165 0, byteOffset := 0 }, { name := "codes", type := 163, offset := 1, embedded := false, tag := "", pkgPath := pkOf 165 1, byteOffset := 24 }]) ∧
    Try.prog.underlying 166 = some (TypeDesc.tuple #[9, 4]) ∧
    Try.prog.underlying 167 = some (TypeDesc.func #[3] #[9, 4] false) ∧
    Try.prog.underlying 168 = some (TypeDesc.func #[122] #[77] false) ∧
    Try.prog.underlying 169 = some (TypeDesc.func #[23, 3] #[127] false) ∧
    Try.prog.underlying 170 = some (TypeDesc.func #[9] #[77] false) ∧
    Try.prog.underlying 171 = some (TypeDesc.func #[127, 9] #[3] false) ∧
    Try.prog.underlying 172 = some (TypeDesc.func #[2] #[77] false) ∧
    Try.prog.underlying 173 = some (TypeDesc.func #[] #[122] false) ∧
    Try.prog.underlying 174 = some (TypeDesc.func #[77] #[77, 28] false) ∧
    Try.prog.underlying 175 = some (TypeDesc.struct #[{ name := "b", type := 77, offset := 0, embedded := false, tag := "", pkgPath := pkOf 175 0, byteOffset := 0 }, { name := "f", type := 28, offset := 1, embedded := false, tag := "", pkgPath := pkOf 175 1, byteOffset := 24 }]) ∧
    Try.prog.underlying 176 = some (TypeDesc.struct #[{ name := "b", type := 77, offset := 0, embedded := false, tag := "", pkgPath := pkOf 176 0, byteOffset := 0 }, { name := "f", type := 28, offset := 1, embedded := false, tag := "", pkgPath := pkOf 176 1, byteOffset := 24 }]) ∧
    Try.prog.underlying 177 = some (TypeDesc.func #[3] #[9] false) ∧
    Try.prog.underlying 178 = some (TypeDesc.func #[3] #[122] false) ∧
    Try.prog.underlying 179 = some (TypeDesc.func #[] #[2] false) ∧
    Try.prog.underlying 180 = some (TypeDesc.func #[90, 93] #[90] false) ∧
    Try.prog.underlying 181 = some (TypeDesc.func #[90, 3, 3, 3, 95] #[] false) ∧
    Try.prog.underlying 182 = some (TypeDesc.func #[156] #[3] false) ∧
    Try.prog.underlying 183 = some (TypeDesc.slice 3) ∧
    Try.prog.underlying 184 = some (TypeDesc.func #[2] #[4] false) ∧
    Try.prog.underlying 185 = some (TypeDesc.func #[9, 9] #[3] false) ∧
    Try.prog.underlying 186 = some (TypeDesc.func #[] #[163] false) ∧
    Try.prog.underlying 187 = some (TypeDesc.func #[9, 3] #[4] false) ∧
    Try.prog.underlying 188 = some (TypeDesc.func #[187] #[] false) ∧
    Try.prog.underlying 189 = some (TypeDesc.func #[187] #[] false) ∧
    Try.prog.underlying 190 = some (TypeDesc.func #[] #[189] false) ∧
    Try.prog.underlying 191 = some (TypeDesc.struct #[{ name := "k", type := 9, offset := 0, embedded := false, tag := "", pkgPath := pkOf 191 0, byteOffset := 0 }, { name := "v", type := 3, offset := 1, embedded := false, tag := "", pkgPath := pkOf 191 1, byteOffset := 16 }]) ∧
    Try.prog.underlying 192 = some (TypeDesc.struct #[{ name := "k", type := 9, offset := 0, embedded := false, tag := "", pkgPath := pkOf 192 0, byteOffset := 0 }, { name := "v", type := 3, offset := 1, embedded := false, tag := "", pkgPath := pkOf 192 1, byteOffset := 16 }]) ∧
    Try.prog.underlying 193 = some (TypeDesc.slice 192) ∧
    Try.prog.underlying 194 = some (TypeDesc.struct #[{ name := "l", type := 193, offset := 0, embedded := false, tag := "", pkgPath := pkOf 194 0, byteOffset := 0 }]) ∧
    Try.prog.underlying 195 = some (TypeDesc.struct #[{ name := "l", type := 193, offset := 0, embedded := false, tag := "", pkgPath := pkOf 195 0, byteOffset := 0 }]) ∧
    Try.prog.underlying 196 = some (TypeDesc.int IntKind.u32) ∧
    Try.prog.underlying 197 = some (TypeDesc.func #[77] #[196] false) ∧
    Try.prog.underlying 198 = some (TypeDesc.func #[127] #[127] false) ∧
    Try.prog.underlying 199 = some (TypeDesc.func #[196] #[77] false) ∧
    Try.prog.underlying 200 = some (TypeDesc.func #[122] #[77, 4] false) ∧
    Try.prog.underlying 201 = some (TypeDesc.tuple #[77, 4]) ∧
    Try.prog.underlying 202 = some (TypeDesc.func #[90, 3, 3, 95] #[] false) ∧
    Try.prog.underlying 203 = some (TypeDesc.int IntKind.i64) ∧
    Try.prog.underlying 204 = some (TypeDesc.tuple #[3, 203]) ∧
    Try.prog.underlying 205 = some (TypeDesc.func #[90, 3, 3, 95] #[3, 203] false) ∧
    Try.prog.underlying 206 = some (TypeDesc.func #[90, 3, 3, 95] #[4] false) ∧
    Try.prog.underlying 207 = some (TypeDesc.func #[90, 3, 3, 3, 95] #[3] false) ∧
    Try.prog.underlying 208 = some (TypeDesc.func #[90, 3, 3, 3, 95] #[3, 4] false) ∧
    Try.prog.underlying 209 = some (TypeDesc.func #[196] #[3] false) ∧
    Try.prog.underlying 210 = some (TypeDesc.func #[122] #[3] false) ∧
    Try.prog.underlying 211 = some (TypeDesc.func #[9] #[4] false) ∧
    Try.prog.underlying 212 = some (TypeDesc.func #[193, 3, 193] #[193] true) ∧
    Try.prog.underlying 213 = some (TypeDesc.func #[193] #[189] false) ∧
    Try.prog.underlying 214 = some (TypeDesc.func #[196, 77] #[196] false) ∧
    Try.prog.underlying 215 = some (TypeDesc.int IntKind.u64) ∧
    Try.prog.underlying 216 = some (TypeDesc.func #[3] #[156] false) ∧
    Try.prog.underlying 217 = some (TypeDesc.func #[90, 3, 218, 95] #[3] false) ∧
    Try.prog.underlying 218 = some (TypeDesc.pointer 3) ∧
    Try.prog.underlying 219 = some (TypeDesc.func #[90, 3, 3, 3, 218, 95] #[3] false) ∧
    Try.prog.underlying 220 = some (TypeDesc.func #[193, 193] #[4] false) ∧
    Try.prog.underlying 221 = some (TypeDesc.func #[193, 3] #[] false) ∧
    Try.prog.underlying 222 = some (TypeDesc.func #[196] #[196] false) ∧
    Try.prog.underlying 223 = some (TypeDesc.pointer 215) ∧
    Try.prog.underlying 224 = some (TypeDesc.tuple #[3, 3]) ∧
    Try.prog.underlying 225 = some (TypeDesc.func #[90, 3, 3, 218, 95] #[3, 3] false) ∧
    Try.prog.underlying 226 = some (TypeDesc.func #[193] #[] false) ∧
    Try.prog.underlying 227 = some (TypeDesc.func #[] #[9] false) ∧
    Try.prog.underlying 228 = some (TypeDesc.struct #[{ name := "_interface", type := 17, offset := 0, embedded := false, tag := "", pkgPath := "runtime", byteOffset := 0 }, { name := "concrete", type := 17, offset := 1, embedded := false, tag := "", pkgPath := "runtime", byteOffset := 8 }, { name := "asserted", type := 17, offset := 2, embedded := false, tag := "", pkgPath := "runtime", byteOffset := 16 }, { name := "missingMethod", type := 9, offset := 3, embedded := false, tag := "", pkgPath := "runtime", byteOffset := 24 }]) ∧
    Try.prog.underlying 229 = some (TypeDesc.struct #[{ name := "_interface", type := 17, offset := 0, embedded := false, tag := "", pkgPath := "runtime", byteOffset := 0 }, { name := "concrete", type := 17, offset := 1, embedded := false, tag := "", pkgPath := "runtime", byteOffset := 8 }, { name := "asserted", type := 17, offset := 2, embedded := false, tag := "", pkgPath := "runtime", byteOffset := 16 }, { name := "missingMethod", type := 9, offset := 3, embedded := false, tag := "", pkgPath := "runtime", byteOffset := 24 }]) ∧
    Try.prog.underlying 230 = some (TypeDesc.array 0 16) ∧
    Try.prog.underlying 231 = some (TypeDesc.struct #[{ name := "_", type := 230, offset := 0, embedded := false, tag := "", pkgPath := "runtime", byteOffset := 0 }]) ∧
    Try.prog.underlying 232 = some (TypeDesc.struct #[{ name := "_", type := 230, offset := 0, embedded := false, tag := "", pkgPath := "runtime", byteOffset := 0 }]) ∧
    Try.prog.underlying 233 = some (TypeDesc.int IntKind.u8) ∧
    Try.prog.underlying 234 = some (TypeDesc.int IntKind.u8) ∧
    Try.prog.underlying 235 = some (TypeDesc.func #[241, 241] #[4] false) ∧
    Try.prog.underlying 236 = some (TypeDesc.pointer 5) ∧
    Try.prog.underlying 237 = some (TypeDesc.int IntKind.i32) ∧
    Try.prog.underlying 238 = some (TypeDesc.int IntKind.i32) ∧
    Try.prog.underlying 239 = some (TypeDesc.struct #[{ name := "Size_", type := 12, offset := 0, embedded := false, tag := "", pkgPath := "", byteOffset := 0 }, { name := "PtrBytes", type := 12, offset := 1, embedded := false, tag := "", pkgPath := "", byteOffset := 8 }, { name := "Hash", type := 196, offset := 2, embedded := false, tag := "", pkgPath := "", byteOffset := 16 }, { name := "TFlag", type := 233, offset := 3, embedded := false, tag := "", pkgPath := "", byteOffset := 20 }, { name := "Align_", type := 5, offset := 4, embedded := false, tag := "", pkgPath := "", byteOffset := 21 }, { name := "FieldAlign_", type := 5, offset := 5, embedded := false, tag := "", pkgPath := "", byteOffset := 22 }, { name := "Kind_", type := 234, offset := 6, embedded := false, tag := "", pkgPath := "", byteOffset := 23 }, { name := "Equal", type := 235, offset := 7, embedded := false, tag := "", pkgPath := "", byteOffset := 24 }, { name := "GCData", type := 236, offset := 8, embedded := false, tag := "", pkgPath := "", byteOffset := 32 }, { name := "Str", type := 237, offset := 9, embedded := false, tag := "", pkgPath := "", byteOffset := 40 }, { name := "PtrToThis", type := 238, offset := 10, embedded := false, tag := "", pkgPath := "", byteOffset := 44 }]) ∧
    Try.prog.underlying 240 = some (TypeDesc.struct #[{ name := "Size_", type := 12, offset := 0, embedded := false, tag := "", pkgPath := "", byteOffset := 0 }, { name := "PtrBytes", type := 12, offset := 1, embedded := false, tag := "", pkgPath := "", byteOffset := 8 }, { name := "Hash", type := 196, offset := 2, embedded := false, tag := "", pkgPath := "", byteOffset := 16 }, { name := "TFlag", type := 233, offset := 3, embedded := false, tag := "", pkgPath := "", byteOffset := 20 }, { name := "Align_", type := 5, offset := 4, embedded := false, tag := "", pkgPath := "", byteOffset := 21 }, { name := "FieldAlign_", type := 5, offset := 5, embedded := false, tag := "", pkgPath := "", byteOffset := 22 }, { name := "Kind_", type := 234, offset := 6, embedded := false, tag := "", pkgPath := "", byteOffset := 23 }, { name := "Equal", type := 235, offset := 7, embedded := false, tag := "", pkgPath := "", byteOffset := 24 }, { name := "GCData", type := 236, offset := 8, embedded := false, tag := "", pkgPath := "", byteOffset := 32 }, { name := "Str", type := 237, offset := 9, embedded := false, tag := "", pkgPath := "", byteOffset := 40 }, { name := "PtrToThis", type := 238, offset := 10, embedded := false, tag := "", pkgPath := "", byteOffset := 44 }]) ∧
    Try.prog.underlying 241 = some TypeDesc.unsafePointer := by
  refine ⟨Try.underlying0, Try.underlying1, Try.underlying2, Try.underlying3, Try.underlying4, Try.underlying5, Try.underlying6, Try.underlying7, Try.underlying8, Try.underlying9, Try.underlying10, Try.underlying11, Try.underlying12, Try.underlying13, Try.underlying14, Try.underlying15, Try.underlying16, Try.underlying17, by kernel_rfl, by kernel_rfl, Try.underlying20, Try.underlying21, Try.underlying22, Try.underlying23, Try.underlying24, Try.underlying25, Try.underlying26, Try.underlying27, Try.underlying28, Try.underlying29, Try.underlying30, Try.underlying31, Try.underlying32, Try.underlying33, Try.underlying34, Try.underlying35, Try.underlying36, Try.underlying37, Try.underlying38, Try.underlying39, Try.underlying40, Try.underlying41, Try.underlying42, Try.underlying43, Try.underlying44, Try.underlying45, Try.underlying46, Try.underlying47, Try.underlying48, Try.underlying49, Try.underlying50, Try.underlying51, Try.underlying52, Try.underlying53, Try.underlying54, Try.underlying55, Try.underlying56, Try.underlying57, Try.underlying58, Try.underlying59, Try.underlying60, Try.underlying61, Try.underlying62, Try.underlying63, Try.underlying64, Try.underlying65, Try.underlying66, Try.underlying67, Try.underlying68, Try.underlying69, Try.underlying70, Try.underlying71, Try.underlying72, Try.underlying73, Try.underlying74, Try.underlying75, Try.underlying76, Try.underlying77, Try.underlying78, Try.underlying79, Try.underlying80, Try.underlying81, Try.underlying82, Try.underlying83, Try.underlying84, Try.underlying85, Try.underlying86, Try.underlying87, by kernel_rfl, by kernel_rfl, Try.underlying90, Try.underlying91, Try.underlying92, Try.underlying93, Try.underlying94, Try.underlying95, Try.underlying96, Try.underlying97, Try.underlying98, Try.underlying99, Try.underlying100, Try.underlying101, Try.underlying102, Try.underlying103, Try.underlying104, by kernel_rfl, by kernel_rfl, Try.underlying107, Try.underlying108, Try.underlying109, Try.underlying110, Try.underlying111, Try.underlying112, Try.underlying113, Try.underlying114, Try.underlying115, Try.underlying116, Try.underlying117, by kernel_rfl, by kernel_rfl, Try.underlying120, Try.underlying121, Try.underlying122, Try.underlying123, Try.underlying124, Try.underlying125, Try.underlying126, Try.underlying127, Try.underlying128, Try.underlying129, Try.underlying130, Try.underlying131, Try.underlying132, Try.underlying133, Try.underlying134, Try.underlying135, Try.underlying136, Try.underlying137, Try.underlying138, Try.underlying139, Try.underlying140, Try.underlying141, Try.underlying142, by kernel_rfl, by kernel_rfl, Try.underlying145, Try.underlying146, Try.underlying147, Try.underlying148, Try.underlying149, Try.underlying150, Try.underlying151, Try.underlying152, Try.underlying153, Try.underlying154, Try.underlying155, Try.underlying156, Try.underlying157, Try.underlying158, Try.underlying159, Try.underlying160, Try.underlying161, Try.underlying162, Try.underlying163, by kernel_rfl, by kernel_rfl, Try.underlying166, Try.underlying167, Try.underlying168, Try.underlying169, Try.underlying170, Try.underlying171, Try.underlying172, Try.underlying173, Try.underlying174, by kernel_rfl, by kernel_rfl, Try.underlying177, Try.underlying178, Try.underlying179, Try.underlying180, Try.underlying181, Try.underlying182, Try.underlying183, Try.underlying184, Try.underlying185, Try.underlying186, Try.underlying187, Try.underlying188, Try.underlying189, Try.underlying190, by kernel_rfl, by kernel_rfl, Try.underlying193, by kernel_rfl, by kernel_rfl, Try.underlying196, Try.underlying197, Try.underlying198, Try.underlying199, Try.underlying200, Try.underlying201, Try.underlying202, Try.underlying203, Try.underlying204, Try.underlying205, Try.underlying206, Try.underlying207, Try.underlying208, Try.underlying209, Try.underlying210, Try.underlying211, Try.underlying212, Try.underlying213, Try.underlying214, Try.underlying215, Try.underlying216, Try.underlying217, Try.underlying218, Try.underlying219, Try.underlying220, Try.underlying221, Try.underlying222, Try.underlying223, Try.underlying224, Try.underlying225, Try.underlying226, Try.underlying227, Try.underlying228, Try.underlying229, Try.underlying230, Try.underlying231, Try.underlying232, Try.underlying233, Try.underlying234, Try.underlying235, Try.underlying236, Try.underlying237, Try.underlying238, Try.underlying239, Try.underlying240, Try.underlying241⟩
theorem mixed : Try.prog.follows .mixedOrders = true := by kernel_rfl
end Go.Proofs
