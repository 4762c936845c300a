/- A seat with views has the general declarations in their texts. No condition. -/
import Derived.Test.YtbcdpibcieadlaaVw7
import Derived.Test.YtbcdpibcieadlaaVr
